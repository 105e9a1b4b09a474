/- FnEroded returns true for every argument, and leaves it as it was. No condition. -/
import Derived.Test.YtabmfaamadbefaaObr
import Derived.Test.YtabmfaamadbefaaCe
import Derived.Test.YtabmfaamadbefaaCf
import Derived.Test.YtabmfaamadbefaaHsp
import Derived.Test.YtabmfaamadbefaaZg
import Derived.Test.YtabmfaamadbefaaEr
import Derived.Test.YtabmfaamadbefaaWn
import Derived.Test.YtabmfaamadbefaaSps
set_option linter.unusedVariables false
set_option linter.unusedSimpArgs false
set_option linter.unusedSectionVars false
namespace Go.Proofs.Ytabmfaamadbefaa
open Go.ChangeShapes Go.WideShapes Go.ChangeAt Go.RowKit Go.Joins

theorem all_succ {cs : List H3} {f : H3 → Bool} {j : Nat} (hj : j < cs.length) {b v : Bool} (hb : b = (cs.take j).all f) (hv : f cs[j] = v) : (b && v) = (cs.take (j + 1)).all f := by
  rw [List.take_succ_eq_append_getElem hj, List.all_append, hb, ← hv]; simp
theorem small_corners {a b c d : Int} (S : SmallBd a b c d) : (cornersL (boxB (-a) (-b) c d)).length = 4 ∧ ∀ t ∈ cornersL (boxB (-a) (-b) c d), (-4 ≤ t.a ∧ t.a ≤ 4) ∧ (-4 ≤ t.b ∧ t.b ≤ 4) := by
  rw [box_corners S.box]
  obtain ⟨ha, hb, hc, hd⟩ := S
  refine ⟨rfl, fun t ht => ?_⟩
  simp only [List.mem_cons, List.not_mem_nil, or_false] at ht
  rcases ht with rfl | rfl | rfl | rfl <;> (simp only; omega)

set_option maxRecDepth 100000 in
set_option maxHeartbeats 8000000 in
theorem lawE_any {bs : List Int} {A : Option Addr} {c : Nat} (w : World) (Rcode : RY w A bs) (hlen : bs.length ≤ 9223372036854775807) :
    Calls Try.prog 6 #[.slice A bs.length c] w fun e w' => e = .returned (.bool true) ∧ Below w.heap.size w w' := by
  by_cases hm : 1048576 < bs.length
  · go_enter Try.func6, Try.ntmps6
    go_wp2
    go_ret
    exact ⟨rfl, (by repeat (first | exact bR | refine bO ?_ | refine bA ?_ | refine bS ?_ | refine bD ?_ | refine bN ?_))⟩
  replace hm : bs.length ≤ 1048576 := by omega
  go_enter Try.func6, Try.ntmps6
  go_wp2_with fail
  obtain ⟨V, hV⟩ : ∃ V, V = w := ⟨_, rfl⟩
  have TV : Below w.heap.size w V := by rw [hV]; exact Below.refl _ _
  have s0 : w.heap.size ≤ V.heap.size := TV.size
  obtain ⟨W0, hW⟩ : ∃ W0, W0 = w := ⟨_, rfl⟩
  rw [← hW]
  have T : Below V.heap.size V W0 := by rw [hW, hV]; exact Below.refl _ _
  clear hW hV
  have Scode := Rcode.below (TV.trans (T.mono s0))
  refine (MakeArea_any (Scode.below (by repeat (first | exact bR | refine bO ?_ | refine bA ?_ | refine bS ?_ | refine bD ?_ | refine bN ?_))) hm ⟨by omega, by omega⟩).mono ?_
  rintro e W1 ⟨⟨p, Ap, cp, rfl, Xp, kp, ApP⟩, hb⟩
  have K : Below W0.heap.size W0 W1 := Below.trans (by repeat (first | exact bR | refine bO ?_ | refine bA ?_ | refine bS ?_ | refine bD ?_ | refine bN ?_)) (hb.mono (by first | exact Nat.le_refl _ | simp [ov_size]))
  clear hb
  replace T := T.trans (K.mono T.size)
  clear K Scode
  have Scode := Rcode.below (TV.trans (T.mono s0))
  have lp := (region_good kp).2
  go_wp2_with fail
  obtain ⟨bp, hbx⟩ : ∃ b, b = W1.heap.size := ⟨_, rfl⟩
  rw [← hbx]
  obtain ⟨W2, hW⟩ : ∃ W, W = W1.alloc (.cells #[.slice Ap p.length cp] 25) := ⟨_, rfl⟩
  rw [← hW]
  have K : Below W1.heap.size W1 W2 := by rw [hW]; exact (by repeat (first | exact bR | refine bO ?_ | refine bA ?_ | refine bS ?_ | refine bD ?_ | refine bN ?_))
  have Bp := Lib.hid (show W2.heap[bp]? = some (.cells #[.slice Ap p.length cp] 25 (0, 0)) by rw [hW, hbx]; exact heap_alloc_new _ _)
  clear hW hbx
  replace T := T.trans (K.mono T.size)
  replace Xp := Xp.below K
  clear K Scode
  have Scode := Rcode.below (TV.trans (T.mono s0))
  refine (MakeSmall_any (Scode.below (by repeat (first | exact bR | refine bO ?_ | refine bA ?_ | refine bS ?_ | refine bD ?_ | refine bN ?_))) hm ⟨by omega, by omega⟩).mono ?_
  rintro e W3 ⟨a1, b1, c1, d1, Aw, cw, SB, rfl, Xw, hb⟩
  have K : Below W2.heap.size W2 W3 := Below.trans (by repeat (first | exact bR | refine bO ?_ | refine bA ?_ | refine bS ?_ | refine bD ?_ | refine bN ?_)) (hb.mono (by first | exact Nat.le_refl _ | simp [ov_size]))
  clear hb
  replace T := T.trans (K.mono T.size)
  replace Bp := box_below Bp K
  replace Xp := Xp.below K
  clear K Scode
  have Scode := Rcode.below (TV.trans (T.mono s0))
  obtain ⟨csl, csb⟩ := small_corners SB
  have kw := box_reg SB.box
  obtain ⟨pe, hee, ke, hme⟩ := eroded_fine ApP SB
  have hwi := eroded_within ApP SB hme ke
  have hlaw : ∀ x y : Int, (-40 ≤ x ∧ x ≤ 40) → (-40 ≤ y ∧ y ≤ 40) → pe ≠ [] → _ := fun x y hx hy => eroded_has ApP SB hme ke hx hy
  clear hme
  have hcr : cornersR (boxB (-a1) (-b1) c1 d1) = cornersL (boxB (-a1) (-b1) c1 d1) := by unfold cornersR; rw [if_pos kw]
  have lw : (boxB (-a1) (-b1) c1 d1).length ≤ 40 := (region_good kw).2
  generalize cornersL (boxB (-a1) (-b1) c1 d1) = cs at csl csb hlaw hcr
  generalize boxB (-a1) (-b1) c1 d1 = ws at Xw hee hcr lw kw ⊢
  have le := (region_good ke).2
  have HE := Lib.hid hee
  have HC := Lib.hid hcr
  have KE := Lib.hid ke
  have HW := Lib.hid hwi
  have HL := Lib.hid hlaw
  have HCB := Lib.hid csb
  have hcs4 : cs.length = 4 := csl
  have HC4 := Lib.hid hcs4
  clear hee hcr hlaw hwi csb kw SB csl
  obtain ⟨Bpc0, Bpl⟩ := cb1 Bp
  go_wp2_with fail
  clear Bpc0 Bpl
  obtain ⟨bw, hbx⟩ : ∃ b, b = W3.heap.size := ⟨_, rfl⟩
  rw [← hbx]
  obtain ⟨W4, hW⟩ : ∃ W, W = W3.alloc (.cells #[.slice Aw ws.length cw] 25) := ⟨_, rfl⟩
  rw [← hW]
  have K : Below W3.heap.size W3 W4 := by rw [hW]; exact (by repeat (first | exact bR | refine bO ?_ | refine bA ?_ | refine bS ?_ | refine bD ?_ | refine bN ?_))
  have Bw := Lib.hid (show W4.heap[bw]? = some (.cells #[.slice Aw ws.length cw] 25 (0, 0)) by rw [hW, hbx]; exact heap_alloc_new _ _)
  clear hW hbx
  replace T := T.trans (K.mono T.size)
  replace Bp := box_below Bp K
  replace Xp := Xp.below K
  replace Xw := Xw.below K
  clear K Scode
  have Scode := Rcode.below (TV.trans (T.mono s0))
  refine (impl_ErodeRegion_eq (Xp.below (by repeat (first | exact bR | refine bO ?_ | refine bA ?_ | refine bS ?_ | refine bD ?_ | refine bN ?_))) (by omega) (Xw.below (by repeat (first | exact bR | refine bO ?_ | refine bA ?_ | refine bS ?_ | refine bD ?_ | refine bN ?_))) (by omega) HE).mono ?_
  rintro e W5 ⟨Ae, ce, rfl, Xe, hb⟩
  have K : Below W4.heap.size W4 W5 := Below.trans (by repeat (first | exact bR | refine bO ?_ | refine bA ?_ | refine bS ?_ | refine bD ?_ | refine bN ?_)) (hb.mono (by first | exact Nat.le_refl _ | simp [ov_size]))
  clear hb
  replace T := T.trans (K.mono T.size)
  replace Bp := box_below Bp K
  replace Bw := box_below Bw K
  replace Xp := Xp.below K
  replace Xw := Xw.below K
  clear K Scode
  have Scode := Rcode.below (TV.trans (T.mono s0))
  replace Xe := Xe.r3
  obtain ⟨Bpc0, Bpl⟩ := cb1 Bp
  obtain ⟨Bwc0, Bwl⟩ := cb1 Bw
  go_wp2_with fail
  clear Bpc0 Bwc0 Bpl Bwl
  obtain ⟨be, hbx⟩ : ∃ b, b = W5.heap.size := ⟨_, rfl⟩
  rw [← hbx]
  obtain ⟨W6, hW⟩ : ∃ W, W = W5.alloc (.cells #[.slice Ae pe.length ce] 25) := ⟨_, rfl⟩
  rw [← hW]
  have K : Below W5.heap.size W5 W6 := by rw [hW]; exact (by repeat (first | exact bR | refine bO ?_ | refine bA ?_ | refine bS ?_ | refine bD ?_ | refine bN ?_))
  have Be := Lib.hid (show W6.heap[be]? = some (.cells #[.slice Ae pe.length ce] 25 (0, 0)) by rw [hW, hbx]; exact heap_alloc_new _ _)
  clear hW hbx
  replace T := T.trans (K.mono T.size)
  replace Bp := box_below Bp K
  replace Bw := box_below Bw K
  replace Xp := Xp.below K
  replace Xw := Xw.below K
  replace Xe := Xe.below K
  clear K Scode
  have Scode := Rcode.below (TV.trans (T.mono s0))
  refine (impl_CornersOf_eq (Xw.below (by repeat (first | exact bR | refine bO ?_ | refine bA ?_ | refine bS ?_ | refine bD ?_ | refine bN ?_))) (by omega) HC).mono ?_
  rintro e W7 ⟨Ak, ck, rfl, Xk, hb⟩
  have K : Below W6.heap.size W6 W7 := Below.trans (by repeat (first | exact bR | refine bO ?_ | refine bA ?_ | refine bS ?_ | refine bD ?_ | refine bN ?_)) (hb.mono (by first | exact Nat.le_refl _ | simp [ov_size]))
  clear hb
  replace T := T.trans (K.mono T.size)
  replace Bp := box_below Bp K
  replace Bw := box_below Bw K
  replace Be := box_below Be K
  replace Xp := Xp.below K
  replace Xw := Xw.below K
  replace Xe := Xe.below K
  clear K Scode
  have Scode := Rcode.below (TV.trans (T.mono s0))
  replace Xk := Xk.r3
  rw [HC4.out]
  clear hcs4
  obtain ⟨Bpc0, Bpl⟩ := cb1 Bp
  obtain ⟨Bwc0, Bwl⟩ := cb1 Bw
  obtain ⟨Bec0, Bel⟩ := cb1 Be
  go_wp2_with fail
  clear Bpc0 Bwc0 Bec0 Bpl Bwl Bel
  refine (calls_ov (impl_RegionOk_eq (Xe.below (by repeat (first | exact bR | refine bO ?_ | refine bA ?_ | refine bS ?_ | refine bD ?_ | refine bN ?_))) (by omega) KE)).mono ?_
  rintro e w' ⟨rfl, x9, rfl⟩
  obtain ⟨W8, hW⟩ : ∃ Z, Z = ov W7 x9 := ⟨_, rfl⟩
  rw [← hW]
  have K : Below W7.heap.size W7 W8 := by rw [hW]; exact (by repeat (first | exact bR | refine bO ?_ | refine bA ?_ | refine bS ?_ | refine bD ?_ | refine bN ?_))
  clear hW
  replace T := T.trans (K.mono T.size)
  replace Bp := box_below Bp K
  replace Bw := box_below Bw K
  replace Be := box_below Be K
  replace Xp := Xp.below K
  replace Xw := Xw.below K
  replace Xe := Xe.below K
  replace Xk := Xk.below K
  clear K Scode
  have Scode := Rcode.below (TV.trans (T.mono s0))
  obtain ⟨Bpc0, Bpl⟩ := cb1 Bp
  obtain ⟨Bwc0, Bwl⟩ := cb1 Bw
  obtain ⟨Bec0, Bel⟩ := cb1 Be
  go_wp2_with fail
  clear Bpc0 Bwc0 Bec0 Bpl Bwl Bel
  refine (calls_ov (impl_IsWithin_eq (Xe.below (by repeat (first | exact bR | refine bO ?_ | refine bA ?_ | refine bS ?_ | refine bD ?_ | refine bN ?_))) (by omega) (Xp.below (by repeat (first | exact bR | refine bO ?_ | refine bA ?_ | refine bS ?_ | refine bD ?_ | refine bN ?_))) (by omega) HW)).mono ?_
  rintro e w' ⟨rfl, x9, rfl⟩
  obtain ⟨W9, hW⟩ : ∃ Z, Z = ov W8 x9 := ⟨_, rfl⟩
  rw [← hW]
  have K : Below W8.heap.size W8 W9 := by rw [hW]; exact (by repeat (first | exact bR | refine bO ?_ | refine bA ?_ | refine bS ?_ | refine bD ?_ | refine bN ?_))
  clear hW
  replace T := T.trans (K.mono T.size)
  replace Bp := box_below Bp K
  replace Bw := box_below Bw K
  replace Be := box_below Be K
  replace Xp := Xp.below K
  replace Xw := Xw.below K
  replace Xe := Xe.below K
  replace Xk := Xk.below K
  clear K Scode
  have Scode := Rcode.below (TV.trans (T.mono s0))
  obtain ⟨Bpc0, Bpl⟩ := cb1 Bp
  obtain ⟨Bwc0, Bwl⟩ := cb1 Bw
  obtain ⟨Bec0, Bel⟩ := cb1 Be
  go_wp2
  clear Bpc0 Bwc0 Bec0 Bpl Bwl Bel
  go_loopw [8] (fun i wr => ∃ k : Nat, k ≤ 12 ∧ i = .int .i64 k ∧ Below W9.heap.size W9 wr) (fun i _ => 12 - (intOf i).toNat)
  case atStart => exact ⟨0, by omega, rfl, Below.refl _ _⟩
  case round =>
    obtain ⟨k, hk, rfl, hb0⟩ := hrel
    have K := hb0
    obtain ⟨W50, hW⟩ : ∃ Z, Z = wr := ⟨_, rfl⟩
    rw [← hW] at K hb0 ⊢
    clear hW
    have TC := hb0
    replace T := T.trans (K.mono T.size)
    replace Bp := box_below Bp K
    replace Bw := box_below Bw K
    replace Be := box_below Be K
    replace Xp := Xp.below K
    replace Xw := Xw.below K
    replace Xe := Xe.below K
    replace Xk := Xk.below K
    clear K Scode
    have Scode := Rcode.below (TV.trans (T.mono s0))
    by_cases hlt : k < 12
    · skip
      obtain ⟨Bpc0, Bpl⟩ := cb1 Bp
      obtain ⟨Bwc0, Bwl⟩ := cb1 Bw
      obtain ⟨Bec0, Bel⟩ := cb1 Be
      go_wp2_with fail
      clear Bpc0 Bwc0 Bec0 Bpl Bwl Bel
      refine (MakeWhole_any (n := 60 + 4 * (k : Int)) (Scode.below (by repeat (first | exact bR | refine bO ?_ | refine bA ?_ | refine bS ?_ | refine bD ?_ | refine bN ?_))) hm ⟨by omega, by omega⟩).mono ?_
      rintro e W51 ⟨x, y, rfl, ⟨bx1, bx2⟩, ⟨by1, by2⟩, hb⟩
      have K : Below W50.heap.size W50 W51 := Below.trans (by repeat (first | exact bR | refine bO ?_ | refine bA ?_ | refine bS ?_ | refine bD ?_ | refine bN ?_)) (hb.mono (by first | exact Nat.le_refl _ | simp [ov_size]))
      clear hb
      replace TC := TC.trans (K.mono TC.size)
      replace T := T.trans (K.mono T.size)
      replace Bp := box_below Bp K
      replace Bw := box_below Bw K
      replace Be := box_below Be K
      replace Xp := Xp.below K
      replace Xw := Xw.below K
      replace Xe := Xe.below K
      replace Xk := Xk.below K
      clear K Scode
      have Scode := Rcode.below (TV.trans (T.mono s0))
      obtain ⟨Bpc0, Bpl⟩ := cb1 Bp
      obtain ⟨Bwc0, Bwl⟩ := cb1 Bw
      obtain ⟨Bec0, Bel⟩ := cb1 Be
      go_wp2_with fail
      clear Bpc0 Bwc0 Bec0 Bpl Bwl Bel
      obtain ⟨bs, hbx⟩ : ∃ b, b = W51.heap.size := ⟨_, rfl⟩
      rw [← hbx]
      obtain ⟨W52, hW⟩ : ∃ W, W = W51.alloc (.cells #[.int .i64 x, .int .i64 y, .int .i64 1] 31) := ⟨_, rfl⟩
      rw [← hW]
      have K : Below W51.heap.size W51 W52 := by rw [hW]; exact (by repeat (first | exact bR | refine bO ?_ | refine bA ?_ | refine bS ?_ | refine bD ?_ | refine bN ?_))
      have Bs := Lib.hid (show W52.heap[bs]? = some (.cells #[.int .i64 x, .int .i64 y, .int .i64 1] 31 (0, 0)) by rw [hW, hbx]; exact heap_alloc_new _ _)
      clear hW hbx
      replace TC := TC.trans (K.mono TC.size)
      replace T := T.trans (K.mono T.size)
      replace Bp := box_below Bp K
      replace Bw := box_below Bw K
      replace Be := box_below Be K
      replace Xp := Xp.below K
      replace Xw := Xw.below K
      replace Xe := Xe.below K
      replace Xk := Xk.below K
      clear K Scode
      have Scode := Rcode.below (TV.trans (T.mono s0))
      obtain ⟨Bpc0, Bpl⟩ := cb1 Bp
      obtain ⟨Bwc0, Bwl⟩ := cb1 Bw
      obtain ⟨Bec0, Bel⟩ := cb1 Be
      obtain ⟨Bsc0, Bsc1, Bsc2, Bsl⟩ := cb3 Bs
      go_wp2
      clear Bpc0 Bwc0 Bec0 Bsc0 Bsc1 Bsc2 Bpl Bwl Bel Bsl
      go_loopw [10, 59] (fun al i wr => ∃ (b : Bool) (j : Nat), j ≤ 4 ∧ al = .bool b ∧ i = .int .i64 j ∧ Hid (b = (cs.take j).all (fun t => hasSpotR p (x + t.a) (y + t.b) 1)) ∧ Below W52.heap.size W52 wr) (fun _ i _ => 4 - (intOf i).toNat)
      case atStart => exact ⟨true, 0, by omega, rfl, rfl, Lib.hid rfl, Below.refl _ _⟩
      case round =>
        obtain ⟨b, j, hj, rfl, rfl, HB, hb0⟩ := hrel
        have K := hb0
        obtain ⟨W70, hW⟩ : ∃ Z, Z = wr := ⟨_, rfl⟩
        rw [← hW] at K hb0 ⊢
        clear hW
        have TD := hb0
        replace TC := TC.trans (K.mono TC.size)
        replace T := T.trans (K.mono T.size)
        replace Bp := box_below Bp K
        replace Bw := box_below Bw K
        replace Be := box_below Be K
        replace Bs := box_below Bs K
        replace Xp := Xp.below K
        replace Xw := Xw.below K
        replace Xe := Xe.below K
        replace Xk := Xk.below K
        clear K Scode
        have Scode := Rcode.below (TV.trans (T.mono s0))
        by_cases hlt4 : j < 4
        · have hjc : j < cs.length := by rw [HC4.out]; exact hlt4
          obtain ⟨⟨ta1, ta2⟩, tb1, tb2⟩ := HCB.out _ (List.getElem_mem hjc)
          obtain ⟨g0, rfl, hg0, z0, z1, z2⟩ := Xk.at_ hjc
          obtain ⟨hp1, hh2⟩ : ∃ t, hasSpotR p (x + cs[j].a) (y + cs[j].b) 1 = t := ⟨_, rfl⟩
          have HN := Lib.hid (all_succ (f := (fun t => hasSpotR p (x + t.a) (y + t.b) 1)) hjc HB.out hh2)
          clear HB
          obtain ⟨⟨ta, tb, tc⟩, hct⟩ : ∃ t, cs[j] = t := ⟨_, rfl⟩
          rw [hct] at ta1 ta2 tb1 tb2 z0 z1 z2 hh2
          simp only at ta1 ta2 tb1 tb2 z0 z1 z2 hh2
          have H2 := Lib.hid hh2
          clear hct hh2 hjc
          obtain ⟨Bpc0, Bpl⟩ := cb1 Bp
          obtain ⟨Bwc0, Bwl⟩ := cb1 Bw
          obtain ⟨Bec0, Bel⟩ := cb1 Be
          obtain ⟨Bsc0, Bsc1, Bsc2, Bsl⟩ := cb3 Bs
          go_wp2_with fail
          clear Bpc0 Bwc0 Bec0 Bsc0 Bsc1 Bsc2 Bpl Bwl Bel Bsl
          obtain ⟨bt, hbx⟩ : ∃ b, b = W70.heap.size := ⟨_, rfl⟩
          rw [← hbx]
          obtain ⟨W71, hW⟩ : ∃ W, W = W70.alloc (.cells #[.int .i64 ta, .int .i64 tb, .int .i64 tc] 31) := ⟨_, rfl⟩
          rw [← hW]
          have K : Below W70.heap.size W70 W71 := by rw [hW]; exact (by repeat (first | exact bR | refine bO ?_ | refine bA ?_ | refine bS ?_ | refine bD ?_ | refine bN ?_))
          have Bt := Lib.hid (show W71.heap[bt]? = some (.cells #[.int .i64 ta, .int .i64 tb, .int .i64 tc] 31 (0, 0)) by rw [hW, hbx]; exact heap_alloc_new _ _)
          clear hW hbx
          replace TC := TC.trans (K.mono TC.size)
          replace TD := TD.trans (K.mono TD.size)
          replace T := T.trans (K.mono T.size)
          replace Bp := box_below Bp K
          replace Bw := box_below Bw K
          replace Be := box_below Be K
          replace Bs := box_below Bs K
          replace Xp := Xp.below K
          replace Xw := Xw.below K
          replace Xe := Xe.below K
          replace Xk := Xk.below K
          clear K Scode
          have Scode := Rcode.below (TV.trans (T.mono s0))
          clear z0 z1 z2
          refine (calls_ov (ShiftSpot_whole (by omega) (by omega) (by omega) (by omega) rfl rfl)).mono ?_
          rintro e w' ⟨rfl, x9, rfl⟩
          obtain ⟨W72, hW⟩ : ∃ Z, Z = ov W71 x9 := ⟨_, rfl⟩
          rw [← hW]
          have K : Below W71.heap.size W71 W72 := by rw [hW]; exact (by repeat (first | exact bR | refine bO ?_ | refine bA ?_ | refine bS ?_ | refine bD ?_ | refine bN ?_))
          clear hW
          replace TC := TC.trans (K.mono TC.size)
          replace TD := TD.trans (K.mono TD.size)
          replace T := T.trans (K.mono T.size)
          replace Bp := box_below Bp K
          replace Bw := box_below Bw K
          replace Be := box_below Be K
          replace Bs := box_below Bs K
          replace Bt := box_below Bt K
          replace Xp := Xp.below K
          replace Xw := Xw.below K
          replace Xe := Xe.below K
          replace Xk := Xk.below K
          clear K Scode
          have Scode := Rcode.below (TV.trans (T.mono s0))
          cases b with
          | false =>
            have TDs := TD.size
            obtain ⟨Bpc0, Bpl⟩ := cb1 Bp
            obtain ⟨Bwc0, Bwl⟩ := cb1 Bw
            obtain ⟨Bec0, Bel⟩ := cb1 Be
            obtain ⟨Bsc0, Bsc1, Bsc2, Bsl⟩ := cb3 Bs
            obtain ⟨Btc0, Btc1, Btc2, Btl⟩ := cb3 Bt
            go_wp2
            go_roundw
            case rel => exact ⟨false, j + 1, by omega, rfl, by go_num, HN, (by repeat (first | exact TD | refine bO ?_ | refine bA ?_ | refine bS ?_ | refine bD ?_ | refine bN ?_))⟩
            case measure => simp [intOf]; omega
          | true =>
            obtain ⟨Bpc0, Bpl⟩ := cb1 Bp
            obtain ⟨Bwc0, Bwl⟩ := cb1 Bw
            obtain ⟨Bec0, Bel⟩ := cb1 Be
            obtain ⟨Bsc0, Bsc1, Bsc2, Bsl⟩ := cb3 Bs
            obtain ⟨Btc0, Btc1, Btc2, Btl⟩ := cb3 Bt
            go_wp2_with fail
            clear Bpc0 Bwc0 Bec0 Bsc0 Bsc1 Bsc2 Btc0 Btc1 Btc2 Bpl Bwl Bel Bsl Btl
            obtain ⟨bx, hbx⟩ : ∃ b, b = W72.heap.size := ⟨_, rfl⟩
            rw [← hbx]
            obtain ⟨W73, hW⟩ : ∃ W, W = W72.alloc (.cells #[.int .i64 (x + ta), .int .i64 (y + tb), .int .i64 1] 31) := ⟨_, rfl⟩
            rw [← hW]
            have K : Below W72.heap.size W72 W73 := by rw [hW]; exact (by repeat (first | exact bR | refine bO ?_ | refine bA ?_ | refine bS ?_ | refine bD ?_ | refine bN ?_))
            have Bx := Lib.hid (show W73.heap[bx]? = some (.cells #[.int .i64 (x + ta), .int .i64 (y + tb), .int .i64 1] 31 (0, 0)) by rw [hW, hbx]; exact heap_alloc_new _ _)
            clear hW hbx
            replace TC := TC.trans (K.mono TC.size)
            replace TD := TD.trans (K.mono TD.size)
            replace T := T.trans (K.mono T.size)
            replace Bp := box_below Bp K
            replace Bw := box_below Bw K
            replace Be := box_below Be K
            replace Bs := box_below Bs K
            replace Bt := box_below Bt K
            replace Xp := Xp.below K
            replace Xw := Xw.below K
            replace Xe := Xe.below K
            replace Xk := Xk.below K
            clear K Scode
            have Scode := Rcode.below (TV.trans (T.mono s0))
            have TDs := TD.size
            obtain ⟨Bpc0, Bpl⟩ := cb1 Bp
            obtain ⟨Bwc0, Bwl⟩ := cb1 Bw
            obtain ⟨Bec0, Bel⟩ := cb1 Be
            obtain ⟨Bsc0, Bsc1, Bsc2, Bsl⟩ := cb3 Bs
            obtain ⟨Btc0, Btc1, Btc2, Btl⟩ := cb3 Bt
            obtain ⟨Bxc0, Bxc1, Bxc2, Bxl⟩ := cb3 Bx
            go_wp2_with (first | (go_at_call 14; (first | (with_reducible refine (calls_ov2 (impl_HasSpot_eq (by exact Xp.below (by repeat (first | exact bR | refine bO ?_ | refine bA ?_ | refine bS ?_ | refine bD ?_ | refine bN ?_))) (by omega) (by exact ⟨by omega, by omega, by omega⟩) (by exact H2))).mono ?_) | refine (calls_ov (impl_HasSpot_eq (by exact Xp.below (by repeat (first | exact bR | refine bO ?_ | refine bA ?_ | refine bS ?_ | refine bD ?_ | refine bN ?_))) (by omega) (by exact ⟨by omega, by omega, by omega⟩) (by exact H2))).mono ?_); rintro e w' ⟨rfl, x, rfl⟩))
            go_roundw
            case rel => exact ⟨hp1, j + 1, by omega, rfl, by go_num, HN, (by repeat (first | exact TD | refine bO ?_ | refine bA ?_ | refine bS ?_ | refine bD ?_ | refine bN ?_))⟩
            case measure => simp [intOf]; omega
        · obtain rfl : j = 4 := by omega
          have hall : b = cs.all (fun t => hasSpotR p (x + t.a) (y + t.b) 1) := by rw [HB.out, List.take_of_length_le (by rw [HC4.out]; exact Nat.le_refl _)]
          have hl2 := HL.out x y ⟨bx1, bx2⟩ ⟨by1, by2⟩
          obtain ⟨he1, hh1⟩ : ∃ t, hasSpotR pe x y 1 = t := ⟨_, rfl⟩
          obtain ⟨vb, hv⟩ : ∃ t, decide (pe.length = 0) = t := ⟨_, rfl⟩
          rw [hh1, ← hall] at hl2
          have hz : vb = true → he1 = false := fun e => by rw [← hh1]; rw [e, decide_eq_true_eq] at hv; rw [List.length_eq_zero_iff.1 hv]; exact eroded_void
          replace hl2 : vb = false → he1 = b := fun e => hl2 (fun q => by rw [q] at hv; rw [e] at hv; cases hv)
          have H1 := Lib.hid hh1
          have H3 := Lib.hid hv
          clear hh1 hv hall HB
          cases vb with
          | true =>
            obtain rfl : he1 = false := hz rfl
            clear hz hl2
            cases b with
            | true =>
              have TCs := TC.size
              obtain ⟨Bpc0, Bpl⟩ := cb1 Bp
              obtain ⟨Bwc0, Bwl⟩ := cb1 Bw
              obtain ⟨Bec0, Bel⟩ := cb1 Be
              obtain ⟨Bsc0, Bsc1, Bsc2, Bsl⟩ := cb3 Bs
              go_wp2_with (first | (go_at_call 14; (first | (with_reducible refine (calls_ov2 (impl_HasSpot_eq (by exact Xe.below (by repeat (first | exact bR | refine bO ?_ | refine bA ?_ | refine bS ?_ | refine bD ?_ | refine bN ?_))) (by omega) (by exact ⟨by omega, by omega, by omega⟩) (by exact H1))).mono ?_) | refine (calls_ov (impl_HasSpot_eq (by exact Xe.below (by repeat (first | exact bR | refine bO ?_ | refine bA ?_ | refine bS ?_ | refine bD ?_ | refine bN ?_))) (by omega) (by exact ⟨by omega, by omega, by omega⟩) (by exact H1))).mono ?_); rintro e w' ⟨rfl, x, rfl⟩) | (go_at_call 13; (first | (with_reducible refine (calls_ov2 (IsVoid_eq H3)).mono ?_) | refine (calls_ov (IsVoid_eq H3)).mono ?_); rintro e w' ⟨rfl, x, rfl⟩))
              go_roundw
              case rel => exact ⟨k + 1, by omega, by go_num, (by repeat (first | exact TC | refine bO ?_ | refine bA ?_ | refine bS ?_ | refine bD ?_ | refine bN ?_))⟩
              case measure => simp [intOf]; omega
            | false =>
              have TCs := TC.size
              obtain ⟨Bpc0, Bpl⟩ := cb1 Bp
              obtain ⟨Bwc0, Bwl⟩ := cb1 Bw
              obtain ⟨Bec0, Bel⟩ := cb1 Be
              obtain ⟨Bsc0, Bsc1, Bsc2, Bsl⟩ := cb3 Bs
              go_wp2_with (first | (go_at_call 14; (first | (with_reducible refine (calls_ov2 (impl_HasSpot_eq (by exact Xe.below (by repeat (first | exact bR | refine bO ?_ | refine bA ?_ | refine bS ?_ | refine bD ?_ | refine bN ?_))) (by omega) (by exact ⟨by omega, by omega, by omega⟩) (by exact H1))).mono ?_) | refine (calls_ov (impl_HasSpot_eq (by exact Xe.below (by repeat (first | exact bR | refine bO ?_ | refine bA ?_ | refine bS ?_ | refine bD ?_ | refine bN ?_))) (by omega) (by exact ⟨by omega, by omega, by omega⟩) (by exact H1))).mono ?_); rintro e w' ⟨rfl, x, rfl⟩) | (go_at_call 13; (first | (with_reducible refine (calls_ov2 (IsVoid_eq H3)).mono ?_) | refine (calls_ov (IsVoid_eq H3)).mono ?_); rintro e w' ⟨rfl, x, rfl⟩))
              go_roundw
              case rel => exact ⟨k + 1, by omega, by go_num, (by repeat (first | exact TC | refine bO ?_ | refine bA ?_ | refine bS ?_ | refine bD ?_ | refine bN ?_))⟩
              case measure => simp [intOf]; omega
          | false =>
            obtain rfl : he1 = b := hl2 rfl
            clear hz hl2
            cases he1 with
            | true =>
              have TCs := TC.size
              obtain ⟨Bpc0, Bpl⟩ := cb1 Bp
              obtain ⟨Bwc0, Bwl⟩ := cb1 Bw
              obtain ⟨Bec0, Bel⟩ := cb1 Be
              obtain ⟨Bsc0, Bsc1, Bsc2, Bsl⟩ := cb3 Bs
              go_wp2_with (first | (go_at_call 14; (first | (with_reducible refine (calls_ov2 (impl_HasSpot_eq (by exact Xe.below (by repeat (first | exact bR | refine bO ?_ | refine bA ?_ | refine bS ?_ | refine bD ?_ | refine bN ?_))) (by omega) (by exact ⟨by omega, by omega, by omega⟩) (by exact H1))).mono ?_) | refine (calls_ov (impl_HasSpot_eq (by exact Xe.below (by repeat (first | exact bR | refine bO ?_ | refine bA ?_ | refine bS ?_ | refine bD ?_ | refine bN ?_))) (by omega) (by exact ⟨by omega, by omega, by omega⟩) (by exact H1))).mono ?_); rintro e w' ⟨rfl, x, rfl⟩) | (go_at_call 13; (first | (with_reducible refine (calls_ov2 (IsVoid_eq H3)).mono ?_) | refine (calls_ov (IsVoid_eq H3)).mono ?_); rintro e w' ⟨rfl, x, rfl⟩))
              go_roundw
              case rel => exact ⟨k + 1, by omega, by go_num, (by repeat (first | exact TC | refine bO ?_ | refine bA ?_ | refine bS ?_ | refine bD ?_ | refine bN ?_))⟩
              case measure => simp [intOf]; omega
            | false =>
              have TCs := TC.size
              obtain ⟨Bpc0, Bpl⟩ := cb1 Bp
              obtain ⟨Bwc0, Bwl⟩ := cb1 Bw
              obtain ⟨Bec0, Bel⟩ := cb1 Be
              obtain ⟨Bsc0, Bsc1, Bsc2, Bsl⟩ := cb3 Bs
              go_wp2_with (first | (go_at_call 14; (first | (with_reducible refine (calls_ov2 (impl_HasSpot_eq (by exact Xe.below (by repeat (first | exact bR | refine bO ?_ | refine bA ?_ | refine bS ?_ | refine bD ?_ | refine bN ?_))) (by omega) (by exact ⟨by omega, by omega, by omega⟩) (by exact H1))).mono ?_) | refine (calls_ov (impl_HasSpot_eq (by exact Xe.below (by repeat (first | exact bR | refine bO ?_ | refine bA ?_ | refine bS ?_ | refine bD ?_ | refine bN ?_))) (by omega) (by exact ⟨by omega, by omega, by omega⟩) (by exact H1))).mono ?_); rintro e w' ⟨rfl, x, rfl⟩) | (go_at_call 13; (first | (with_reducible refine (calls_ov2 (IsVoid_eq H3)).mono ?_) | refine (calls_ov (IsVoid_eq H3)).mono ?_); rintro e w' ⟨rfl, x, rfl⟩))
              go_roundw
              case rel => exact ⟨k + 1, by omega, by go_num, (by repeat (first | exact TC | refine bO ?_ | refine bA ?_ | refine bS ?_ | refine bD ?_ | refine bN ?_))⟩
              case measure => simp [intOf]; omega
    · skip
      obtain ⟨Bpc0, Bpl⟩ := cb1 Bp
      obtain ⟨Bwc0, Bwl⟩ := cb1 Bw
      obtain ⟨Bec0, Bel⟩ := cb1 Be
      go_wp2
      go_ret
      exact ⟨rfl, (by repeat (first | exact TV.trans (T.mono s0) | refine bO ?_ | refine bA ?_ | refine bS ?_ | refine bD ?_ | refine bN ?_))⟩
set_option maxRecDepth 100000 in
theorem FnEroded_lifted (os : Os) (started : os.Started) (H : Type) (enc : TypeId × Value → H) :
    ReturnsInHanded {} Try.checked os 6 .any (Rows.fnErodedSpec.pre6 enc Try.prog Try.f6 Rows.fnErodedRow.domain false) (Rows.fnErodedSpec.post enc Try.prog Try.f6 false true false false) := by
  refine returnsInHanded_of_change (C := Try.checked) own started (by kernel_rfl) Try.func6
    (ChangeSpec.witness6 (enc := enc) (C := Try.checked) false ⟨#[], #[.slice none 0 0], []⟩ 8 (by kernel_rfl) (by kernel_rfl) (by kernel_rfl) (by kernel_rfl)) ?_
  intro W base args ds gs before hval0 hW hcnd _
  have hval : ∀ (j : Nat) t v, Try.f6.params[j]? = some t → args[j]? = some v → Value.okWide Try.prog W .any base t v := hval0
  have hW' := hW
  obtain ⟨p, q, hA0, hV, rfl, hfz, hnd⟩ := hW
  have hA : DataW.TrodAll enc Try.prog W 0 (fun _ => true) true Try.f6.params.toList args.toList ds p := hA0
  rw [Try.params6] at hA hval
  obtain ⟨v0, vs0, d0, ds0, p0, q0, hargs0, rfl, rfl, h0, r0⟩ := trodAll_cons hA
  obtain ⟨rfl, rfl, rfl⟩ := trodAll_nil r0
  obtain rfl : args = #[v0] := by cases args; simp_all
  obtain ⟨rfl, rfl⟩ := trodVars_none hV
  have k0 := h0
  have lt0 : ∀ x ∈ p0, x.block < W.heap.size := by obtain ⟨m, hm⟩ := k0; exact DataW.trod_lt m _ _ _ hm
  have hv0 := hval 0 22 v0 rfl rfl
  obtain ⟨A0, c0, xs0, rfl, RR0, hlen0⟩ := open_bytes hv0 h0
  clear hA0 hval0
  refine (lawE_any W RR0 hlen0).mono fun e W' ⟨he, bel⟩ => ?_
  subst he
  exact ⟨_, rfl, _, _, _, [], _, [], hW', trodAll_mk1 (shut_bool Try.underlying4 _), (trodAll_cons_mk (Below.trod laidOut (by kernel_rfl) (of_decide_eq_true (by kernel_rfl)) k0 bel lt0) trodAll_mk0), rfl, bel.frame _, fun h => by cases h⟩

theorem FnEroded_holds : Rows.FnErodedSaid :=
  OpenClaim.holds_of_wide 6 Try.f6 rfl rfl rfl rfl rfl rfl rfl ⟨rfl, rfl, rfl, rfl, rfl⟩ rfl rfl rfl rfl rfl (by kernel_rfl) Try.func6 (by kernel_rfl)
    (of_decide_eq_true (by kernel_rfl)) (by unfold Func.isWrapper; first | (rw [if_pos (by decide +kernel)]; kernel_rfl) | (rw [if_neg (by decide +kernel)]; exact ⟨rfl, rfl⟩))
    (fun os started H enc _ => FnEroded_lifted os started H enc)
#print axioms FnEroded_holds

end Go.Proofs.Ytabmfaamadbefaa
