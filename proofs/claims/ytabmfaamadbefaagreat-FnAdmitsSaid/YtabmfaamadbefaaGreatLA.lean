/- Several texts in one: Zw, LA. Each says its own conditions. -/
import Derived.Test.YtabmfaamadbefaaGreatZy
import Derived.Test.YtabmfaamadbefaaGreatZp
import Derived.Test.YtabmfaamadbefaaGreatQi
import Derived.Test.YtabmfaamadbefaaGreatQz
import Derived.Test.YtabmfaamadbefaaGreatCst
import Derived.Test.YtabmfaamadbefaaGreatQo
import Derived.Test.YtabmfaamadbefaaGreatQg
import Derived.Test.YtabmfaamadbefaaGreatRmo
import Derived.Test.YtabmfaamadbefaaGreatWn
/- Plain: a state of the kept region admits an input, and the next states lie in it again (FnAdmits). No program. -/
set_option linter.unusedSimpArgs false
set_option linter.unusedVariables false
set_option linter.unusedSectionVars false
namespace Go.Proofs.YtabmfaamadbefaaGreat
open Go.RowKit
/-- What FnAdmits says of a drawn state and the kept region. -/
structure AdmitsP (r : RoomV) (p : List H3) (x y l1 l2 : Int) (fine : Bool) : Prop where
  bd : fine = true → ratioOk l1 l2 = true
  can : canR r x y 1 = hasSpotR p x y 1
  adm : hasSpotR p x y 1 = true → fine = true
  step : fine = true → ∀ t ∈ cornersL r.ns, ∀ a b c ok, nextR r x y 1 l1 l2 t.a t.b t.c = ((a, b, c), ok) → ok = true → spotOk a b c = true ∧ hasSpotR p a b c = true
theorem admits_law {r : RoomV} {p : List H3} {x y l1 l2 m1 m2 : Int} {fine : Bool} (D : RoomD r) (hx : -15 ≤ x ∧ x < 15) (hy : -15 ≤ y ∧ y < 15) (hp : keptR r = (p, true)) (hne : p ≠ []) (ha : admitR r p x y 1 = (((l1, l2), (m1, m2)), fine)) : AdmitsP r p x y l1 l2 fine := by
  obtain ⟨hk, hP, _, _⟩ := keptR_parts hp
  obtain ⟨q, hq, kq, hsub⟩ := keep_within hP
  obtain ⟨_, kp, e, g, Q⟩ := pre_parts hq
  obtain ⟨z, hz⟩ := (set_fat kp hne).some
  have hqn : q ≠ [] := (hsub z hz).1
  have hr : robustR r p = (e, true) := by
    unfold robustR
    rw [if_pos ⟨hk, kp⟩]
    exact Q.he
  have hs := pre_spot D hx hy Q hqn
  have hen : e ≠ [] := by
    obtain ⟨_, _, hg⟩ := (Q.so z).1 (hsub z hz)
    obtain ⟨_, _, u, _, _, he⟩ := (Q.sg _).1 hg
    exact he.1
  obtain ⟨h1, h2⟩ := adm_set D hx hy kp hr hen ha
  have hh := has_whole (p := p) kp (x := x) (y := y) (by omega) (by omega)
  refine ⟨fun hf => (h1 hf).1, ?_, ?_, ?_⟩
  · unfold canR
    rw [hp]
    rfl
  · intro k
    obtain ⟨u, u1, u2, u3⟩ := hs.1 (hsub _ (hh.1 k))
    cases fine with
    | true => rfl
    | false => exact absurd u3 (h2 rfl u u1 u2)
  · intro hf t ht a b c ok hn hok
    subst hok
    obtain ⟨p1, p2, p3, p4⟩ := h1 hf
    have hE := ((p4 (fr (l1, l2))).1 ⟨Rat.le_refl, p3⟩).2
    have hin := ((Q.se _).1 hE).2.2 _ (corner_set (noise_reg D).1 ht).2.2
    unfold nextR at hn
    rw [if_pos hk] at hn
    have hsp := nextT_ok hn
    obtain ⟨_, q0, e1⟩ := nextT_val (next_pos D) hn
    rw [← e1] at hin
    have hsp' : spotOk a b c = true := hsp
    exact ⟨hsp', (has_spot kp hsp').2 hin⟩
end Go.Proofs.YtabmfaamadbefaaGreat
/- FnAdmits returns true for every argument, and leaves it as it was. No condition. -/
set_option linter.unusedVariables false
set_option linter.unusedSimpArgs false
set_option linter.unusedSectionVars false
namespace Go.Proofs.YtabmfaamadbefaaGreat
open Go.ChangeShapes Go.WideShapes Go.ChangeAt Go.RowKit Go.Joins
theorem bel_ {B : Nat} {a w : World} (h : Below B a w := by repeat (first | exact bR | refine bO ?_ | refine bA ?_ | refine bS ?_ | refine bD ?_ | refine bN ?_)) : Below B a w := h
set_option maxRecDepth 100000 in
set_option maxHeartbeats 8000000 in
theorem lawA_any {bs : List Int} {A : Option Addr} {c : Nat} (w : World) (Rcode : RY w A bs) (hlen : bs.length ≤ 9223372036854775807) :
    Calls Tryz.prog 8 #[.slice A bs.length c] w fun e w' => e = .returned (.bool true) ∧ Below w.heap.size w w' := by
  by_cases hm : 1048576 < bs.length
  · go_enter Tryz.func8, Tryz.ntmps8
    go_wp2
    go_ret
    exact ⟨rfl, bel_⟩
  replace hm : bs.length ≤ 1048576 := by omega
  go_enter Tryz.func8, Tryz.ntmps8
  go_wp2_with fail
  obtain ⟨V, hV⟩ : ∃ V, V = w := ⟨_, rfl⟩
  have TV : Below w.heap.size w V := by rw [hV]; exact Below.refl _ _
  have s0 : w.heap.size ≤ V.heap.size := TV.size
  obtain ⟨W0, hW⟩ : ∃ W0, W0 = w := ⟨_, rfl⟩
  rw [← hW]
  have T : Below V.heap.size V W0 := by rw [hW, hV]; exact Below.refl _ _
  clear hW hV
  have Scode := Rcode.below (TV.trans (T.mono s0))
  refine (MakeState_any (Scode.below bel_) hm).mono ?_
  rintro e W1 ⟨r, gr, cr1, Ar2, cr2, Ar3, cr3, sx, sy, rfl, Xr, D, hsx, hsy, hb⟩
  have K : Below W0.heap.size W0 W1 := Below.trans bel_ (hb.mono (by first | exact Nat.le_refl _ | simp [ov_size]))
  clear hb
  replace T := T.trans (K.mono T.size)
  clear K Scode
  have Scode := Rcode.below (TV.trans (T.mono s0))
  have hsr := short_room D
  go_wp2_with fail
  obtain ⟨W2, hW⟩ : ∃ W, ((W1.alloc (.cells #[.slice (some ⟨gr, 0, none⟩) r.m.length cr1, .int .i64 r.q, .int .i64 r.bx, .int .i64 r.by_, .int .i64 r.lo, .int .i64 r.hi, .slice Ar2 r.ns.length cr2, .slice Ar3 r.ls.length cr3] 28)).alloc (.cells #[.int .i64 sx, .int .i64 sy, .int .i64 1] 52)) = W := ⟨_, rfl⟩
  rw [hW]
  have K : Below W1.heap.size W1 W2 := by rw [← hW]; exact bel_
  have Br := Lib.hid (show W2.heap[W1.heap.size]? = some (.cells #[.slice (some ⟨gr, 0, none⟩) r.m.length cr1, .int .i64 r.q, .int .i64 r.bx, .int .i64 r.by_, .int .i64 r.lo, .int .i64 r.hi, .slice Ar2 r.ns.length cr2, .slice Ar3 r.ls.length cr3] 28 (0, 0)) by rw [← hW]; exact ((heap_old_at (by first | (simp; done) | (simp <;> omega))).trans (heap_new_at (by first | (simp; done) | (simp <;> omega)) rfl)))
  have Bs := Lib.hid (show W2.heap[W1.heap.size + 1]? = some (.cells #[.int .i64 sx, .int .i64 sy, .int .i64 1] 52 (0, 0)) by rw [← hW]; exact (heap_new_at (by first | (simp; done) | (simp <;> omega)) rfl))
  clear hW
  generalize W1.heap.size + 1 = bs at Bs ⊢
  generalize W1.heap.size = br at Br ⊢
  replace T := T.trans (K.mono T.size)
  replace Xr := Xr.below K
  clear K Scode
  have Scode := Rcode.below (TV.trans (T.mono s0))
  obtain ⟨⟨p, ok⟩, hp⟩ : ∃ v, keptR r = v := ⟨_, rfl⟩
  have lp := (region_good (keptR_reg hp)).2
  have HP := Lib.hid hp
  have HRO := Lib.hid (room_ok D)
  have SB : SpotB sx sy 1 := ⟨by omega, by omega, by omega⟩
  have SB2 : SpB sx sy 1 := ⟨by omega, by omega, by omega⟩
  have ln : r.ns.length ≤ 40 := (region_good (noise_reg D).1).2
  have hcr : cornersR r.ns = cornersL r.ns := by unfold cornersR; rw [if_pos (noise_reg D).1]
  clear hp
  refine (impl_KeptRegion_eq (by exact Xr.below bel_) hsr HP).mono ?_
  rintro e W3 ⟨Ap, cp, rfl, Xp, hb⟩
  have K : Below W2.heap.size W2 W3 := Below.trans bel_ (hb.mono (by first | exact Nat.le_refl _ | simp [ov_size]))
  clear hb
  replace T := T.trans (K.mono T.size)
  replace Br := box_below Br K
  replace Bs := box_below Bs K
  replace Xr := Xr.below K
  clear K Scode
  have Scode := Rcode.below (TV.trans (T.mono s0))
  replace Xp := Xp.r3
  obtain ⟨Brc0, Brc1, Brc2, Brc3, Brc4, Brc5, Brc6, Brc7, Brl⟩ := cb8 Br
  obtain ⟨Bsc0, Bsc1, Bsc2, Bsl⟩ := cb3 Bs
  go_wp2_with fail
  clear Brc0 Brc1 Brc2 Brc3 Brc4 Brc5 Brc6 Brc7 Bsc0 Bsc1 Bsc2 Brl Bsl
  obtain ⟨bp, hbx⟩ : ∃ b, b = W3.heap.size := ⟨_, rfl⟩
  rw [← hbx]
  obtain ⟨W4, hW⟩ : ∃ W, W = W3.alloc (.cells #[.slice Ap p.length cp] 26) := ⟨_, rfl⟩
  rw [← hW]
  have K : Below W3.heap.size W3 W4 := by rw [hW]; exact bel_
  have Bp := Lib.hid (show W4.heap[bp]? = some (.cells #[.slice Ap p.length cp] 26 (0, 0)) by rw [hW, hbx]; exact heap_alloc_new _ _)
  clear hW hbx
  replace T := T.trans (K.mono T.size)
  replace Br := box_below Br K
  replace Bs := box_below Bs K
  replace Xr := Xr.below K
  replace Xp := Xp.below K
  clear K Scode
  have Scode := Rcode.below (TV.trans (T.mono s0))
  refine (calls_ov (impl_RoomOk_eq (by exact Xr.below bel_) hsr HRO)).mono ?_
  rintro e w' ⟨rfl, x9, rfl⟩
  obtain ⟨W5, hW⟩ : ∃ Z, Z = ov W4 x9 := ⟨_, rfl⟩
  rw [← hW]
  have K : Below W4.heap.size W4 W5 := by rw [hW]; exact bel_
  clear hW
  replace T := T.trans (K.mono T.size)
  replace Br := box_below Br K
  replace Bs := box_below Bs K
  replace Bp := box_below Bp K
  replace Xr := Xr.below K
  replace Xp := Xp.below K
  clear K Scode
  have Scode := Rcode.below (TV.trans (T.mono s0))
  cases ok with
  | false =>
    obtain ⟨Brc0, Brc1, Brc2, Brc3, Brc4, Brc5, Brc6, Brc7, Brl⟩ := cb8 Br
    obtain ⟨Bsc0, Bsc1, Bsc2, Bsl⟩ := cb3 Bs
    obtain ⟨Bpc0, Bpl⟩ := cb1 Bp
    go_wp2
    go_ret
    exact ⟨rfl, (by repeat (first | exact TV.trans (T.mono s0) | refine bO ?_ | refine bA ?_ | refine bS ?_ | refine bD ?_ | refine bN ?_))⟩
  | true =>
    obtain ⟨vq, hvq⟩ : ∃ t, decide (p.length = 0) = t := ⟨_, rfl⟩
    have HVQ := Lib.hid hvq
    clear hvq
    obtain ⟨Brc0, Brc1, Brc2, Brc3, Brc4, Brc5, Brc6, Brc7, Brl⟩ := cb8 Br
    obtain ⟨Bsc0, Bsc1, Bsc2, Bsl⟩ := cb3 Bs
    obtain ⟨Bpc0, Bpl⟩ := cb1 Bp
    go_wp2_with fail
    clear Brc0 Brc1 Brc2 Brc3 Brc4 Brc5 Brc6 Brc7 Bsc0 Bsc1 Bsc2 Bpc0 Brl Bsl Bpl
    refine (calls_ov (IsVoid_eq HVQ)).mono ?_
    rintro e w' ⟨rfl, x9, rfl⟩
    obtain ⟨W6, hW⟩ : ∃ Z, Z = ov W5 x9 := ⟨_, rfl⟩
    rw [← hW]
    have K : Below W5.heap.size W5 W6 := by rw [hW]; exact bel_
    clear hW
    replace T := T.trans (K.mono T.size)
    replace Br := box_below Br K
    replace Bs := box_below Bs K
    replace Bp := box_below Bp K
    replace Xr := Xr.below K
    replace Xp := Xp.below K
    clear K Scode
    have Scode := Rcode.below (TV.trans (T.mono s0))
    cases vq with
    | true =>
      obtain ⟨Brc0, Brc1, Brc2, Brc3, Brc4, Brc5, Brc6, Brc7, Brl⟩ := cb8 Br
      obtain ⟨Bsc0, Bsc1, Bsc2, Bsl⟩ := cb3 Bs
      obtain ⟨Bpc0, Bpl⟩ := cb1 Bp
      go_wp2
      go_ret
      exact ⟨rfl, (by repeat (first | exact TV.trans (T.mono s0) | refine bO ?_ | refine bA ?_ | refine bS ?_ | refine bD ?_ | refine bN ?_))⟩
    | false =>
      obtain ⟨⟨⟨⟨l1, l2⟩, m1, m2⟩, fine⟩, hA⟩ : ∃ v, admitR r p sx sy 1 = v := ⟨_, rfl⟩
      have AP := admits_law D hsx hsy HP.out (fun h => by have := of_decide_eq_false HVQ.out; exact this (by rw [h]; rfl)) hA
      obtain ⟨hs, h1⟩ : ∃ t, hasSpotR p sx sy 1 = t := ⟨_, rfl⟩
      have hcan := AP.can
      have hadm := AP.adm
      rw [h1] at hcan hadm
      have hstep := AP.step
      have hbd := AP.bd
      have hcok : ∀ t ∈ cornersL r.ns, okS t = true := fun t ht => (corner_set (noise_reg D).1 ht).1
      clear AP
      generalize cornersL r.ns = cs at hcr hstep hcok
      have HA := Lib.hid hA
      have H1 := Lib.hid h1
      have H2 := Lib.hid hcan
      have HS := Lib.hid hstep
      have HC := Lib.hid hcr
      have lc : cs.length ≤ 40 := by
        rw [← hcr]
        unfold cornersR
        split
        · rw [cornersL_length]; exact ln
        · simp
      have HCO := Lib.hid hcok
      have HBD := Lib.hid hbd
      clear hA h1 hcan hstep hcr hbd hcok
      obtain ⟨Brc0, Brc1, Brc2, Brc3, Brc4, Brc5, Brc6, Brc7, Brl⟩ := cb8 Br
      obtain ⟨Bsc0, Bsc1, Bsc2, Bsl⟩ := cb3 Bs
      obtain ⟨Bpc0, Bpl⟩ := cb1 Bp
      go_wp2_with fail
      clear Brc0 Brc1 Brc2 Brc3 Brc4 Brc5 Brc6 Brc7 Bsc0 Bsc1 Bsc2 Bpc0 Brl Bsl Bpl
      refine (impl_AdmitAt_eq (by exact Xr.below bel_) hsr (by exact Xp.below bel_) (by omega) SB HA).mono ?_
      rintro e W7 ⟨rfl, hb⟩
      have K : Below W6.heap.size W6 W7 := Below.trans bel_ (hb.mono (by first | exact Nat.le_refl _ | simp [ov_size]))
      clear hb
      replace T := T.trans (K.mono T.size)
      replace Br := box_below Br K
      replace Bs := box_below Bs K
      replace Bp := box_below Bp K
      replace Xr := Xr.below K
      replace Xp := Xp.below K
      clear K Scode
      have Scode := Rcode.below (TV.trans (T.mono s0))
      obtain ⟨Brc0, Brc1, Brc2, Brc3, Brc4, Brc5, Brc6, Brc7, Brl⟩ := cb8 Br
      obtain ⟨Bsc0, Bsc1, Bsc2, Bsl⟩ := cb3 Bs
      obtain ⟨Bpc0, Bpl⟩ := cb1 Bp
      go_wp2_with fail
      clear Brc0 Brc1 Brc2 Brc3 Brc4 Brc5 Brc6 Brc7 Bsc0 Bsc1 Bsc2 Bpc0 Brl Bsl Bpl
      obtain ⟨bw, hbx⟩ : ∃ b, b = W7.heap.size := ⟨_, rfl⟩
      rw [← hbx]
      obtain ⟨W8, hW⟩ : ∃ W, W = W7.alloc (.cells #[.int .i64 l1, .int .i64 l2, .int .i64 m1, .int .i64 m2] 61) := ⟨_, rfl⟩
      rw [← hW]
      have K : Below W7.heap.size W7 W8 := by rw [hW]; exact bel_
      have Bw := Lib.hid (show W8.heap[bw]? = some (.cells #[.int .i64 l1, .int .i64 l2, .int .i64 m1, .int .i64 m2] 61 (0, 0)) by rw [hW, hbx]; exact heap_alloc_new _ _)
      clear hW hbx
      replace T := T.trans (K.mono T.size)
      replace Br := box_below Br K
      replace Bs := box_below Bs K
      replace Bp := box_below Bp K
      replace Xr := Xr.below K
      replace Xp := Xp.below K
      clear K Scode
      have Scode := Rcode.below (TV.trans (T.mono s0))
      cases hs with
      | false =>
        clear hadm
        cases fine with
        | false =>
          obtain ⟨Brc0, Brc1, Brc2, Brc3, Brc4, Brc5, Brc6, Brc7, Brl⟩ := cb8 Br
          obtain ⟨Bsc0, Bsc1, Bsc2, Bsl⟩ := cb3 Bs
          obtain ⟨Bpc0, Bpl⟩ := cb1 Bp
          obtain ⟨Bwc0, Bwc1, Bwc2, Bwc3, Bwl⟩ := cb4 Bw
          ((first | (with_reducible refine wp_region_calm2 (by kernel_rfl) (by kernel_rfl) ?_) | refine wp_region_calm (by kernel_rfl) (by kernel_rfl) ?_); (repeat (go_big_quiet_step (first | (go_at_call 23; exact calm_below (impl_CanBeKept_eq (by exact Xr.below bel_) hsr SB2 H2)) | (go_at_call 30; exact calm_below (impl_HasSpot_eq (by exact Xp.below bel_) (by omega) SB2 H1))))); refine wpQuiet_nil ?_; rintro _ ⟨y, rfl⟩)
          clear Brc0 Brc1 Brc2 Brc3 Brc4 Brc5 Brc6 Brc7 Bsc0 Bsc1 Bsc2 Bpc0 Bwc0 Bwc1 Bwc2 Bwc3 Brl Bsl Bpl Bwl
          obtain ⟨W9, hW⟩ : ∃ Z, Z = ov W8 y := ⟨_, rfl⟩
          rw [← hW]
          have K : Below W8.heap.size W8 W9 := by rw [hW]; exact bel_
          clear hW
          replace T := T.trans (K.mono T.size)
          replace Br := box_below Br K
          replace Bs := box_below Bs K
          replace Bp := box_below Bp K
          replace Bw := box_below Bw K
          replace Xr := Xr.below K
          replace Xp := Xp.below K
          clear K Scode
          have Scode := Rcode.below (TV.trans (T.mono s0))
          obtain ⟨Brc0, Brc1, Brc2, Brc3, Brc4, Brc5, Brc6, Brc7, Brl⟩ := cb8 Br
          obtain ⟨Bsc0, Bsc1, Bsc2, Bsl⟩ := cb3 Bs
          obtain ⟨Bpc0, Bpl⟩ := cb1 Bp
          obtain ⟨Bwc0, Bwc1, Bwc2, Bwc3, Bwl⟩ := cb4 Bw
          go_wp2
          go_ret
          exact ⟨rfl, (by repeat (first | exact TV.trans (T.mono s0) | refine bO ?_ | refine bA ?_ | refine bS ?_ | refine bD ?_ | refine bN ?_))⟩
        | true =>
          obtain ⟨Brc0, Brc1, Brc2, Brc3, Brc4, Brc5, Brc6, Brc7, Brl⟩ := cb8 Br
          obtain ⟨Bsc0, Bsc1, Bsc2, Bsl⟩ := cb3 Bs
          obtain ⟨Bpc0, Bpl⟩ := cb1 Bp
          obtain ⟨Bwc0, Bwc1, Bwc2, Bwc3, Bwl⟩ := cb4 Bw
          ((first | (with_reducible refine wp_region_calm2 (by kernel_rfl) (by kernel_rfl) ?_) | refine wp_region_calm (by kernel_rfl) (by kernel_rfl) ?_); (repeat (go_big_quiet_step (first | (go_at_call 23; exact calm_below (impl_CanBeKept_eq (by exact Xr.below bel_) hsr SB2 H2)) | (go_at_call 30; exact calm_below (impl_HasSpot_eq (by exact Xp.below bel_) (by omega) SB2 H1))))); refine wpQuiet_nil ?_; rintro _ ⟨y, rfl⟩)
          clear Brc0 Brc1 Brc2 Brc3 Brc4 Brc5 Brc6 Brc7 Bsc0 Bsc1 Bsc2 Bpc0 Bwc0 Bwc1 Bwc2 Bwc3 Brl Bsl Bpl Bwl
          obtain ⟨W10, hW⟩ : ∃ Z, Z = ov W8 y := ⟨_, rfl⟩
          rw [← hW]
          have K : Below W8.heap.size W8 W10 := by rw [hW]; exact bel_
          clear hW
          replace T := T.trans (K.mono T.size)
          replace Br := box_below Br K
          replace Bs := box_below Bs K
          replace Bp := box_below Bp K
          replace Bw := box_below Bw K
          replace Xr := Xr.below K
          replace Xp := Xp.below K
          clear K Scode
          have Scode := Rcode.below (TV.trans (T.mono s0))
          obtain ⟨Brc0, Brc1, Brc2, Brc3, Brc4, Brc5, Brc6, Brc7, Brl⟩ := cb8 Br
          obtain ⟨Bsc0, Bsc1, Bsc2, Bsl⟩ := cb3 Bs
          obtain ⟨Bpc0, Bpl⟩ := cb1 Bp
          obtain ⟨Bwc0, Bwc1, Bwc2, Bwc3, Bwl⟩ := cb4 Bw
          go_wp2_with fail
          clear Brc0 Brc1 Brc2 Brc3 Brc4 Brc5 Brc6 Brc7 Bsc0 Bsc1 Bsc2 Bpc0 Bwc0 Bwc1 Bwc2 Bwc3 Brl Bsl Bpl Bwl
          refine (calls_ov (impl_HasSpot_eq (by exact Xp.below bel_) (by omega) SB2 H1)).mono ?_
          rintro e w' ⟨rfl, x9, rfl⟩
          obtain ⟨W11, hW⟩ : ∃ Z, Z = ov W10 x9 := ⟨_, rfl⟩
          rw [← hW]
          have K : Below W10.heap.size W10 W11 := by rw [hW]; exact bel_
          clear hW
          replace T := T.trans (K.mono T.size)
          replace Br := box_below Br K
          replace Bs := box_below Bs K
          replace Bp := box_below Bp K
          replace Bw := box_below Bw K
          replace Xr := Xr.below K
          replace Xp := Xp.below K
          clear K Scode
          have Scode := Rcode.below (TV.trans (T.mono s0))
          obtain ⟨Brc0, Brc1, Brc2, Brc3, Brc4, Brc5, Brc6, Brc7, Brl⟩ := cb8 Br
          obtain ⟨Bsc0, Bsc1, Bsc2, Bsl⟩ := cb3 Bs
          obtain ⟨Bpc0, Bpl⟩ := cb1 Bp
          obtain ⟨Bwc0, Bwc1, Bwc2, Bwc3, Bwl⟩ := cb4 Bw
          go_wp2
          go_ret
          exact ⟨rfl, (by repeat (first | exact TV.trans (T.mono s0) | refine bO ?_ | refine bA ?_ | refine bS ?_ | refine bD ?_ | refine bN ?_))⟩
      | true =>
        obtain rfl := hadm rfl
        clear hadm
        have U : SpotB l1 l2 0 := by
          have := ratioOk_bd (HBD.out (by trivial))
          exact ⟨by omega, by omega, by omega⟩
        obtain ⟨Brc0, Brc1, Brc2, Brc3, Brc4, Brc5, Brc6, Brc7, Brl⟩ := cb8 Br
        obtain ⟨Bsc0, Bsc1, Bsc2, Bsl⟩ := cb3 Bs
        obtain ⟨Bpc0, Bpl⟩ := cb1 Bp
        obtain ⟨Bwc0, Bwc1, Bwc2, Bwc3, Bwl⟩ := cb4 Bw
        ((first | (with_reducible refine wp_region_calm2 (by kernel_rfl) (by kernel_rfl) ?_) | refine wp_region_calm (by kernel_rfl) (by kernel_rfl) ?_); (repeat (go_big_quiet_step (first | (go_at_call 23; exact calm_below (impl_CanBeKept_eq (by exact Xr.below bel_) hsr SB2 H2)) | (go_at_call 30; exact calm_below (impl_HasSpot_eq (by exact Xp.below bel_) (by omega) SB2 H1))))); refine wpQuiet_nil ?_; rintro _ ⟨y, rfl⟩)
        clear Brc0 Brc1 Brc2 Brc3 Brc4 Brc5 Brc6 Brc7 Bsc0 Bsc1 Bsc2 Bpc0 Bwc0 Bwc1 Bwc2 Bwc3 Brl Bsl Bpl Bwl
        obtain ⟨W12, hW⟩ : ∃ Z, Z = ov W8 y := ⟨_, rfl⟩
        rw [← hW]
        have K : Below W8.heap.size W8 W12 := by rw [hW]; exact bel_
        clear hW
        replace T := T.trans (K.mono T.size)
        replace Br := box_below Br K
        replace Bs := box_below Bs K
        replace Bp := box_below Bp K
        replace Bw := box_below Bw K
        replace Xr := Xr.below K
        replace Xp := Xp.below K
        clear K Scode
        have Scode := Rcode.below (TV.trans (T.mono s0))
        obtain ⟨Brc0, Brc1, Brc2, Brc3, Brc4, Brc5, Brc6, Brc7, Brl⟩ := cb8 Br
        obtain ⟨Bsc0, Bsc1, Bsc2, Bsl⟩ := cb3 Bs
        obtain ⟨Bpc0, Bpl⟩ := cb1 Bp
        obtain ⟨Bwc0, Bwc1, Bwc2, Bwc3, Bwl⟩ := cb4 Bw
        go_wp2_with fail
        clear Brc0 Brc1 Brc2 Brc3 Brc4 Brc5 Brc6 Brc7 Bsc0 Bsc1 Bsc2 Bpc0 Bwc0 Bwc1 Bwc2 Bwc3 Brl Bsl Bpl Bwl
        refine (calls_ov (impl_HasSpot_eq (by exact Xp.below bel_) (by omega) SB2 H1)).mono ?_
        rintro e w' ⟨rfl, x9, rfl⟩
        obtain ⟨W13, hW⟩ : ∃ Z, Z = ov W12 x9 := ⟨_, rfl⟩
        rw [← hW]
        have K : Below W12.heap.size W12 W13 := by rw [hW]; exact bel_
        clear hW
        replace T := T.trans (K.mono T.size)
        replace Br := box_below Br K
        replace Bs := box_below Bs K
        replace Bp := box_below Bp K
        replace Bw := box_below Bw K
        replace Xr := Xr.below K
        replace Xp := Xp.below K
        clear K Scode
        have Scode := Rcode.below (TV.trans (T.mono s0))
        obtain ⟨Brc0, Brc1, Brc2, Brc3, Brc4, Brc5, Brc6, Brc7, Brl⟩ := cb8 Br
        obtain ⟨Bsc0, Bsc1, Bsc2, Bsl⟩ := cb3 Bs
        obtain ⟨Bpc0, Bpl⟩ := cb1 Bp
        obtain ⟨Bwc0, Bwc1, Bwc2, Bwc3, Bwl⟩ := cb4 Bw
        go_wp2_with fail
        clear Brc0 Brc1 Brc2 Brc3 Brc4 Brc5 Brc6 Brc7 Bsc0 Bsc1 Bsc2 Bpc0 Bwc0 Bwc1 Bwc2 Bwc3 Brl Bsl Bpl Bwl
        refine (impl_CornersOf_eq (by exact Xr.nr.below bel_) (by omega) HC).mono ?_
        rintro e W14 ⟨Ak, ck, rfl, Xk, hb⟩
        have K : Below W13.heap.size W13 W14 := Below.trans bel_ (hb.mono (by first | exact Nat.le_refl _ | simp [ov_size]))
        clear hb
        replace T := T.trans (K.mono T.size)
        replace Br := box_below Br K
        replace Bs := box_below Bs K
        replace Bp := box_below Bp K
        replace Bw := box_below Bw K
        replace Xr := Xr.below K
        replace Xp := Xp.below K
        clear K Scode
        have Scode := Rcode.below (TV.trans (T.mono s0))
        replace Xk := Xk.r3
        obtain ⟨Brc0, Brc1, Brc2, Brc3, Brc4, Brc5, Brc6, Brc7, Brl⟩ := cb8 Br
        obtain ⟨Bsc0, Bsc1, Bsc2, Bsl⟩ := cb3 Bs
        obtain ⟨Bpc0, Bpl⟩ := cb1 Bp
        obtain ⟨Bwc0, Bwc1, Bwc2, Bwc3, Bwl⟩ := cb4 Bw
        go_wp2
        clear Brc0 Brc1 Brc2 Brc3 Brc4 Brc5 Brc6 Brc7 Bsc0 Bsc1 Bsc2 Bpc0 Bwc0 Bwc1 Bwc2 Bwc3 Brl Bsl Bpl Bwl
        go_loopw [70] (fun i wr => ∃ k : Nat, k ≤ cs.length ∧ i = .int .i64 k ∧ Below W14.heap.size W14 wr) (fun i _ => cs.length - (intOf i).toNat)
        case atStart => exact ⟨0, by omega, rfl, Below.refl _ _⟩
        case round =>
          obtain ⟨k, hk, rfl, hb0⟩ := hrel
          have K := hb0
          obtain ⟨W50, hW⟩ : ∃ Z, Z = wr := ⟨_, rfl⟩
          rw [← hW] at K hb0 ⊢
          clear hW
          have TC := hb0
          replace T := T.trans (K.mono T.size)
          replace Br := box_below Br K
          replace Bs := box_below Bs K
          replace Bp := box_below Bp K
          replace Bw := box_below Bw K
          replace Xr := Xr.below K
          replace Xp := Xp.below K
          replace Xk := Xk.below K
          clear K Scode
          have Scode := Rcode.below (TV.trans (T.mono s0))
          by_cases hlt : k < cs.length
          · skip
            obtain ⟨g0, rfl, hg0, z0, z1, z2⟩ := Xk.at_ hlt
            have hmem := List.getElem_mem hlt
            obtain ⟨⟨ta, tb, tc⟩, hct⟩ : ∃ t, cs[k] = t := ⟨_, rfl⟩
            rw [hct] at z0 z1 z2 hmem
            simp only at z0 z1 z2
            obtain ⟨⟨⟨na, nb, nc⟩, stp⟩, hn⟩ : ∃ v, nextR r sx sy 1 l1 l2 ta tb tc = v := ⟨_, rfl⟩
            have hst : stp = true → spotOk na nb nc = true ∧ hasSpotR p na nb nc = true := fun e => HS.out (by trivial) _ hmem na nb nc stp hn e
            have TSB : SpotB ta tb tc := by
              have := okS_bd (HCO.out _ hmem)
              simp only at this
              exact ⟨by omega, by omega, by omega⟩
            have HN := Lib.hid hn
            have HST := Lib.hid hst
            clear hct hn hst hmem
            obtain ⟨Brc0, Brc1, Brc2, Brc3, Brc4, Brc5, Brc6, Brc7, Brl⟩ := cb8 Br
            obtain ⟨Bsc0, Bsc1, Bsc2, Bsl⟩ := cb3 Bs
            obtain ⟨Bpc0, Bpl⟩ := cb1 Bp
            obtain ⟨Bwc0, Bwc1, Bwc2, Bwc3, Bwl⟩ := cb4 Bw
            go_wp2_with fail
            clear Brc0 Brc1 Brc2 Brc3 Brc4 Brc5 Brc6 Brc7 Bsc0 Bsc1 Bsc2 Bpc0 Bwc0 Bwc1 Bwc2 Bwc3 Brl Bsl Bpl Bwl
            obtain ⟨bt, hbx⟩ : ∃ b, b = W50.heap.size := ⟨_, rfl⟩
            rw [← hbx]
            obtain ⟨W51, hW⟩ : ∃ W, W = W50.alloc (.cells #[.int .i64 ta, .int .i64 tb, .int .i64 tc] 52) := ⟨_, rfl⟩
            rw [← hW]
            have K : Below W50.heap.size W50 W51 := by rw [hW]; exact bel_
            have Bt := Lib.hid (show W51.heap[bt]? = some (.cells #[.int .i64 ta, .int .i64 tb, .int .i64 tc] 52 (0, 0)) by rw [hW, hbx]; exact heap_alloc_new _ _)
            clear hW hbx
            replace TC := TC.trans (K.mono TC.size)
            replace T := T.trans (K.mono T.size)
            replace Br := box_below Br K
            replace Bs := box_below Bs K
            replace Bp := box_below Bp K
            replace Bw := box_below Bw K
            replace Xr := Xr.below K
            replace Xp := Xp.below K
            replace Xk := Xk.below K
            clear K Scode
            have Scode := Rcode.below (TV.trans (T.mono s0))
            clear z0 z1 z2
            refine (calls_ov (impl_NextSpot_eq (by exact Xr.below bel_) hsr SB U TSB HN)).mono ?_
            rintro e w' ⟨rfl, x9, rfl⟩
            obtain ⟨W52, hW⟩ : ∃ Z, Z = ov W51 x9 := ⟨_, rfl⟩
            rw [← hW]
            have K : Below W51.heap.size W51 W52 := by rw [hW]; exact bel_
            clear hW
            replace TC := TC.trans (K.mono TC.size)
            replace T := T.trans (K.mono T.size)
            replace Br := box_below Br K
            replace Bs := box_below Bs K
            replace Bp := box_below Bp K
            replace Bw := box_below Bw K
            replace Bt := box_below Bt K
            replace Xr := Xr.below K
            replace Xp := Xp.below K
            replace Xk := Xk.below K
            clear K Scode
            have Scode := Rcode.below (TV.trans (T.mono s0))
            cases stp with
            | false =>
              have TCs := TC.size
              obtain ⟨Brc0, Brc1, Brc2, Brc3, Brc4, Brc5, Brc6, Brc7, Brl⟩ := cb8 Br
              obtain ⟨Bsc0, Bsc1, Bsc2, Bsl⟩ := cb3 Bs
              obtain ⟨Bpc0, Bpl⟩ := cb1 Bp
              obtain ⟨Bwc0, Bwc1, Bwc2, Bwc3, Bwl⟩ := cb4 Bw
              obtain ⟨Btc0, Btc1, Btc2, Btl⟩ := cb3 Bt
              go_wp2
              go_roundw
              case rel => exact ⟨k + 1, by omega, by go_num, (by repeat (first | exact TC | refine bO ?_ | refine bA ?_ | refine bS ?_ | refine bD ?_ | refine bN ?_))⟩
              case measure => simp [intOf]; omega
            | true =>
              obtain ⟨ho, hh⟩ := HST.out (by trivial)
              have HH := Lib.hid hh
              have SN : SpB na nb nc := by
                have := okS_bd (s := ⟨na, nb, nc⟩) ho
                simp only at this
                exact ⟨by omega, by omega, by omega⟩
              clear ho hh
              obtain ⟨Brc0, Brc1, Brc2, Brc3, Brc4, Brc5, Brc6, Brc7, Brl⟩ := cb8 Br
              obtain ⟨Bsc0, Bsc1, Bsc2, Bsl⟩ := cb3 Bs
              obtain ⟨Bpc0, Bpl⟩ := cb1 Bp
              obtain ⟨Bwc0, Bwc1, Bwc2, Bwc3, Bwl⟩ := cb4 Bw
              obtain ⟨Btc0, Btc1, Btc2, Btl⟩ := cb3 Bt
              go_wp2_with fail
              clear Brc0 Brc1 Brc2 Brc3 Brc4 Brc5 Brc6 Brc7 Bsc0 Bsc1 Bsc2 Bpc0 Bwc0 Bwc1 Bwc2 Bwc3 Btc0 Btc1 Btc2 Brl Bsl Bpl Bwl Btl
              obtain ⟨bn, hbx⟩ : ∃ b, b = W52.heap.size := ⟨_, rfl⟩
              rw [← hbx]
              obtain ⟨W53, hW⟩ : ∃ W, W = W52.alloc (.cells #[.int .i64 na, .int .i64 nb, .int .i64 nc] 52) := ⟨_, rfl⟩
              rw [← hW]
              have K : Below W52.heap.size W52 W53 := by rw [hW]; exact bel_
              have Bn := Lib.hid (show W53.heap[bn]? = some (.cells #[.int .i64 na, .int .i64 nb, .int .i64 nc] 52 (0, 0)) by rw [hW, hbx]; exact heap_alloc_new _ _)
              clear hW hbx
              replace TC := TC.trans (K.mono TC.size)
              replace T := T.trans (K.mono T.size)
              replace Br := box_below Br K
              replace Bs := box_below Bs K
              replace Bp := box_below Bp K
              replace Bw := box_below Bw K
              replace Bt := box_below Bt K
              replace Xr := Xr.below K
              replace Xp := Xp.below K
              replace Xk := Xk.below K
              clear K Scode
              have Scode := Rcode.below (TV.trans (T.mono s0))
              refine (calls_ov (impl_HasSpot_eq (by exact Xp.below bel_) (by omega) SN HH)).mono ?_
              rintro e w' ⟨rfl, x9, rfl⟩
              obtain ⟨W54, hW⟩ : ∃ Z, Z = ov W53 x9 := ⟨_, rfl⟩
              rw [← hW]
              have K : Below W53.heap.size W53 W54 := by rw [hW]; exact bel_
              clear hW
              replace TC := TC.trans (K.mono TC.size)
              replace T := T.trans (K.mono T.size)
              replace Br := box_below Br K
              replace Bs := box_below Bs K
              replace Bp := box_below Bp K
              replace Bw := box_below Bw K
              replace Bt := box_below Bt K
              replace Bn := box_below Bn K
              replace Xr := Xr.below K
              replace Xp := Xp.below K
              replace Xk := Xk.below K
              clear K Scode
              have Scode := Rcode.below (TV.trans (T.mono s0))
              have TCs := TC.size
              obtain ⟨Brc0, Brc1, Brc2, Brc3, Brc4, Brc5, Brc6, Brc7, Brl⟩ := cb8 Br
              obtain ⟨Bsc0, Bsc1, Bsc2, Bsl⟩ := cb3 Bs
              obtain ⟨Bpc0, Bpl⟩ := cb1 Bp
              obtain ⟨Bwc0, Bwc1, Bwc2, Bwc3, Bwl⟩ := cb4 Bw
              obtain ⟨Btc0, Btc1, Btc2, Btl⟩ := cb3 Bt
              obtain ⟨Bnc0, Bnc1, Bnc2, Bnl⟩ := cb3 Bn
              go_wp2
              go_roundw
              case rel => exact ⟨k + 1, by omega, by go_num, (by repeat (first | exact TC | refine bO ?_ | refine bA ?_ | refine bS ?_ | refine bD ?_ | refine bN ?_))⟩
              case measure => simp [intOf]; omega
          · have HF := TV.trans (T.mono s0)
            obtain ⟨Brc0, Brc1, Brc2, Brc3, Brc4, Brc5, Brc6, Brc7, Brl⟩ := cb8 Br
            obtain ⟨Bsc0, Bsc1, Bsc2, Bsl⟩ := cb3 Bs
            obtain ⟨Bpc0, Bpl⟩ := cb1 Bp
            obtain ⟨Bwc0, Bwc1, Bwc2, Bwc3, Bwl⟩ := cb4 Bw
            go_wp2
            go_ret
            exact ⟨rfl, (by repeat (first | exact TV.trans (T.mono s0) | refine bO ?_ | refine bA ?_ | refine bS ?_ | refine bD ?_ | refine bN ?_))⟩
set_option maxRecDepth 100000 in
theorem FnAdmits_lifted (os : Os) (started : os.Started) (H : Type) (enc : TypeId × Value → H) :
    ReturnsInHanded {} Tryz.checked os 8 .any (Rows.fnAdmitsSpec.pre6 enc Tryz.prog Tryz.f8 Rows.fnAdmitsRow.domain false) (Rows.fnAdmitsSpec.post enc Tryz.prog Tryz.f8 false true false false) := by
  refine returnsInHanded_of_change (C := Tryz.checked) own started (by kernel_rfl) Tryz.func8
    (ChangeSpec.witness6 (enc := enc) (C := Tryz.checked) false ⟨#[], #[.slice none 0 0], []⟩ 8 (by kernel_rfl) (by kernel_rfl) (by kernel_rfl) (by kernel_rfl)) ?_
  intro W base args ds gs before hval0 hW hcnd _
  have hval : ∀ (j : Nat) t v, Tryz.f8.params[j]? = some t → args[j]? = some v → Value.okWide Tryz.prog W .any base t v := hval0
  have hW' := hW
  obtain ⟨p, q, hA0, hV, rfl, hfz, hnd⟩ := hW
  have hA : DataW.TrodAll enc Tryz.prog W 0 (fun _ => true) true Tryz.f8.params.toList args.toList ds p := hA0
  rw [Tryz.params8] at hA hval
  obtain ⟨v0, vs0, d0, ds0, p0, q0, hargs0, rfl, rfl, h0, r0⟩ := trodAll_cons hA
  obtain ⟨rfl, rfl, rfl⟩ := trodAll_nil r0
  obtain rfl : args = #[v0] := by cases args; simp_all
  obtain ⟨rfl, rfl⟩ := trodVars_none hV
  have k0 := h0
  have lt0 : ∀ x ∈ p0, x.block < W.heap.size := by obtain ⟨m, hm⟩ := k0; exact DataW.trod_lt m _ _ _ hm
  have hv0 := hval 0 22 v0 rfl rfl
  obtain ⟨A0, c0, xs0, rfl, RR0, hlen0⟩ := open_bytes hv0 h0
  clear hA0 hval0
  refine (lawA_any W RR0 hlen0).mono fun e W' ⟨he, bel⟩ => ?_
  subst he
  exact ⟨_, rfl, _, _, _, [], _, [], hW', trodAll_mk1 (shut_bool Tryz.underlying4 _), (trodAll_cons_mk (Below.trod laidOut (by kernel_rfl) (of_decide_eq_true (by kernel_rfl)) k0 bel lt0) trodAll_mk0), rfl, bel.frame _, fun h => by cases h⟩

theorem FnAdmits_holds : Rows.FnAdmitsSaid :=
  OpenClaim.holds_of_wide 8 Tryz.f8 rfl rfl rfl rfl rfl rfl rfl ⟨rfl, rfl, rfl, rfl, rfl⟩ rfl rfl rfl rfl rfl (by kernel_rfl) Tryz.func8 (by kernel_rfl)
    (of_decide_eq_true (by kernel_rfl)) (by unfold Func.isWrapper; first | (rw [if_pos (by decide +kernel)]; kernel_rfl) | (rw [if_neg (by decide +kernel)]; exact ⟨rfl, rfl⟩))
    (fun os started H enc _ => FnAdmits_lifted os started H enc)
#print axioms FnAdmits_holds
end Go.Proofs.YtabmfaamadbefaaGreat