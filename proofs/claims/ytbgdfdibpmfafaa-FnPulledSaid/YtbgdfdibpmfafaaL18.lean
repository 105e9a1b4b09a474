/- FnPulled returns true for every argument, and leaves it as it was. No condition. -/
import Derived.Test.YtbgdfdibpmfafaaObr
import Derived.Test.YtbgdfdibpmfafaaCe
import Derived.Test.YtbgdfdibpmfafaaMps
import Derived.Test.YtbgdfdibpmfafaaHsp
set_option linter.unusedVariables false
set_option linter.unusedSimpArgs false
set_option linter.unusedSectionVars false
namespace Go.Proofs.Ytbgdfdibpmfafaa
open Go.ChangeShapes Go.WideShapes Go.ChangeAt Go.RowKit Go.Joins

theorem whole_spot {x y : Int} (hx : -40 ≤ x ∧ x ≤ 40) (hy : -40 ≤ y ∧ y ≤ 40) : spotOk x y 1 = true := by
  have e : gcdL [x, y, 1] = 1 := by simp [gcdL]
  simp only [spotOk, e, inR, Bool.and_eq_true, decide_eq_true_eq]
  and_intros <;> first | trivial | omega
theorem mapOk4 {a b e f q : Int} (ha : -5 ≤ a ∧ a ≤ 5) (hb : -5 ≤ b ∧ b ≤ 5) (he : -5 ≤ e ∧ e ≤ 5) (hf : -5 ≤ f ∧ f ≤ 5) (hq : 1 ≤ q ∧ q ≤ 5) : mapOk [a, b, e, f] q = true := by
  simp only [mapOk, List.length_cons, List.length_nil, List.all_cons, List.all_nil, Bool.and_true, Bool.and_eq_true, smallI, inR, decide_eq_true_eq]
  and_intros <;> first | trivial | omega
theorem mapped_fine {a b e f q x y : Int} (ha : -5 ≤ a ∧ a ≤ 5) (hb : -5 ≤ b ∧ b ≤ 5) (he : -5 ≤ e ∧ e ≤ 5) (hf : -5 ≤ f ∧ f ≤ 5) (hq : 1 ≤ q ∧ q ≤ 5) (hx : -40 ≤ x ∧ x ≤ 40) (hy : -40 ≤ y ∧ y ≤ 40) : ∃ X Y D : Int, mapS x y 1 [a, b, e, f] q = ((X, Y, D), true) ∧ spotOf (a * x + b * y) (e * x + f * y) (q * 1) = ((X, Y, D), true) ∧ spotOk X Y D = true := by
  obtain ⟨X, Y, D, h, k⟩ := map_fine ha hb he hf hq hx hy
  refine ⟨X, Y, D, ?_, h, k⟩
  unfold mapS
  rw [if_pos ⟨whole_spot hx hy, mapOk4 ha hb he hf hq⟩]
  exact h
/-- What the loop of FnPulled asks of a spot. -/
theorem pulled_law {a b e f q x y X Y D : Int} {p bs : List H3} (hq : 1 ≤ q ∧ q ≤ 5) (kp : regionOk p = true) (hpl : pullR [a, b, e, f] q p = (bs, true)) (hx : -40 ≤ x ∧ x ≤ 40) (hy : -40 ≤ y ∧ y ≤ 40) (hs : spotOf (a * x + b * y) (e * x + f * y) (q * 1) = ((X, Y, D), true)) (ks : spotOk X Y D = true) :
    (bs.length = 0 → hasSpotR bs x y 1 = false) ∧ (bs.length ≠ 0 → hasSpotR bs x y 1 = hasSpotR p X Y D) := by
  constructor
  · intro h
    rw [List.length_eq_zero_iff.1 h]
    unfold hasSpotR hasL
    simp
  · intro h
    have hne : bs ≠ [] := fun e => h (by rw [e]; rfl)
    unfold hasSpotR
    rw [pulled_ok hpl, whole_spot hx hy, kp, ks, pulled_has (by omega) kp hpl hx hy hs hne]
theorem spotOk_bd {X Y D : Int} (h : spotOk X Y D = true) : SpB X Y D := by
  unfold spotOk at h
  simp only [Bool.and_eq_true, inR_iff] at h
  exact ⟨by omega, by omega, by omega⟩

set_option maxRecDepth 100000 in
set_option maxHeartbeats 8000000 in
theorem law18_any {bs : List Int} {A : Option Addr} {c : Nat} (w : World) (Rcode : RY w A bs) (hlen : bs.length ≤ 9223372036854775807) :
    Calls Try.prog 3 #[.slice A bs.length c] w fun e w' => e = .returned (.bool true) ∧ Below w.heap.size w w' := by
  by_cases hm : 1048576 < bs.length
  · go_enter Try.func3, Try.ntmps3
    go_wp2
    go_ret
    exact ⟨rfl, (by repeat (first | exact bR | refine bO ?_ | refine bA ?_ | refine bS ?_ | refine bD ?_ | refine bN ?_))⟩
  replace hm : bs.length ≤ 1048576 := by omega
  go_enter Try.func3, Try.ntmps3
  go_wp2_with fail
  obtain ⟨V, hV⟩ : ∃ V, V = w := ⟨_, rfl⟩
  have TV : Below w.heap.size w V := by rw [hV]; exact Below.refl _ _
  have s0 : w.heap.size ≤ V.heap.size := TV.size
  obtain ⟨W0, hW⟩ : ∃ W0, W0 = w := ⟨_, rfl⟩
  rw [← hW]
  have T : Below V.heap.size V W0 := by rw [hW, hV]; exact Below.refl _ _
  clear hW hV
  have Scode := Rcode.below (TV.trans (T.mono s0))
  refine (MakeArea_any (Scode.below (by repeat (first | exact bR | refine bO ?_ | refine bA ?_ | refine bS ?_ | refine bD ?_ | refine bN ?_))) hm ⟨by omega, by omega⟩).mono ?_
  rintro e W1 ⟨⟨p, Ap, cp, rfl, Xp, kp⟩, hb⟩
  have K : Below W0.heap.size W0 W1 := Below.trans (by repeat (first | exact bR | refine bO ?_ | refine bA ?_ | refine bS ?_ | refine bD ?_ | refine bN ?_)) (hb.mono (by first | exact Nat.le_refl _ | simp [ov_size]))
  clear hb
  replace T := T.trans (K.mono T.size)
  clear K Scode
  have Scode := Rcode.below (TV.trans (T.mono s0))
  go_wp2_with fail
  obtain ⟨bp, hbx⟩ : ∃ b, b = W1.heap.size := ⟨_, rfl⟩
  rw [← hbx]
  obtain ⟨W2, hW⟩ : ∃ W, W = W1.alloc (.cells #[.slice Ap p.length cp] 25) := ⟨_, rfl⟩
  rw [← hW]
  have K : Below W1.heap.size W1 W2 := by rw [hW]; exact (by repeat (first | exact bR | refine bO ?_ | refine bA ?_ | refine bS ?_ | refine bD ?_ | refine bN ?_))
  have Bp := Lib.hid (show W2.heap[bp]? = some (.cells #[.slice Ap p.length cp] 25 (0, 0)) by rw [hW, hbx]; exact heap_alloc_new _ _)
  clear hW hbx
  replace T := T.trans (K.mono T.size)
  replace Xp := Xp.below K
  clear K Scode
  have Scode := Rcode.below (TV.trans (T.mono s0))
  refine (MakeMap_any (Scode.below (by repeat (first | exact bR | refine bO ?_ | refine bA ?_ | refine bS ?_ | refine bD ?_ | refine bN ?_))) hm ⟨by omega, by omega⟩).mono ?_
  rintro e W3 ⟨a1, b1, e1, f1, q, gm, cm, rfl, XI, ka, kb, ke, kf, kq, hd, hb⟩
  have K : Below W2.heap.size W2 W3 := Below.trans (by repeat (first | exact bR | refine bO ?_ | refine bA ?_ | refine bS ?_ | refine bD ?_ | refine bN ?_)) (hb.mono (by first | exact Nat.le_refl _ | simp [ov_size]))
  clear hb
  replace T := T.trans (K.mono T.size)
  replace Bp := box_below Bp K
  replace Xp := Xp.below K
  clear K Scode
  have Scode := Rcode.below (TV.trans (T.mono s0))
  obtain ⟨⟨pb, ok⟩, hpl⟩ : ∃ v, pullR [a1, b1, e1, f1] q p = v := ⟨_, rfl⟩
  have HP := Lib.hid hpl
  have lp := (region_good kp).2
  have KP := Lib.hid kp
  obtain ⟨Bpc0, Bpl⟩ := cb1 Bp
  go_wp2_with fail
  clear Bpc0 Bpl
  refine (impl_PullBack_eq (m := [a1, b1, e1, f1]) (Xp.below (by repeat (first | exact bR | refine bO ?_ | refine bA ?_ | refine bS ?_ | refine bD ?_ | refine bN ?_))) (by omega) (XI.ri.below (by repeat (first | exact bR | refine bO ?_ | refine bA ?_ | refine bS ?_ | refine bD ?_ | refine bN ?_))) (by simp) HP).mono ?_
  rintro e W4 ⟨Ab, cb, rfl, Xb, hb⟩
  have K : Below W3.heap.size W3 W4 := Below.trans (by repeat (first | exact bR | refine bO ?_ | refine bA ?_ | refine bS ?_ | refine bD ?_ | refine bN ?_)) (hb.mono (by first | exact Nat.le_refl _ | simp [ov_size]))
  clear hb
  replace T := T.trans (K.mono T.size)
  replace Bp := box_below Bp K
  replace Xp := Xp.below K
  replace XI := XI.below K
  clear K Scode
  have Scode := Rcode.below (TV.trans (T.mono s0))
  replace Xb := Xb.r3
  obtain ⟨Bpc0, Bpl⟩ := cb1 Bp
  go_wp2_with fail
  clear Bpc0 Bpl
  obtain ⟨bb, hbx⟩ : ∃ b, b = W4.heap.size := ⟨_, rfl⟩
  rw [← hbx]
  obtain ⟨W5, hW⟩ : ∃ W, W = W4.alloc (.cells #[.slice Ab pb.length cb] 25) := ⟨_, rfl⟩
  rw [← hW]
  have K : Below W4.heap.size W4 W5 := by rw [hW]; exact (by repeat (first | exact bR | refine bO ?_ | refine bA ?_ | refine bS ?_ | refine bD ?_ | refine bN ?_))
  have Bb := Lib.hid (show W5.heap[bb]? = some (.cells #[.slice Ab pb.length cb] 25 (0, 0)) by rw [hW, hbx]; exact heap_alloc_new _ _)
  clear hW hbx
  replace T := T.trans (K.mono T.size)
  replace Bp := box_below Bp K
  replace Xp := Xp.below K
  replace XI := XI.below K
  replace Xb := Xb.below K
  clear K Scode
  have Scode := Rcode.below (TV.trans (T.mono s0))
  refine (calls_ov (impl_RegionOk_eq (Xp.below (by repeat (first | exact bR | refine bO ?_ | refine bA ?_ | refine bS ?_ | refine bD ?_ | refine bN ?_))) (by omega) KP)).mono ?_
  rintro e w' ⟨rfl, x, rfl⟩
  obtain ⟨W6, hW⟩ : ∃ W6, W6 = ov W5 x := ⟨_, rfl⟩
  rw [← hW]
  have K : Below W5.heap.size W5 W6 := by rw [hW]; exact (by repeat (first | exact bR | refine bO ?_ | refine bA ?_ | refine bS ?_ | refine bD ?_ | refine bN ?_))
  clear hW
  replace T := T.trans (K.mono T.size)
  replace Bp := box_below Bp K
  replace Bb := box_below Bb K
  replace Xp := Xp.below K
  replace XI := XI.below K
  replace Xb := Xb.below K
  clear K Scode
  have Scode := Rcode.below (TV.trans (T.mono s0))
  cases ok with
  | false =>
    obtain ⟨Bpc0, Bpl⟩ := cb1 Bp
    obtain ⟨Bbc0, Bbl⟩ := cb1 Bb
    go_wp2
    go_ret
    exact ⟨rfl, (by repeat (first | exact TV.trans (T.mono s0) | refine bO ?_ | refine bA ?_ | refine bS ?_ | refine bD ?_ | refine bN ?_))⟩
  | true =>
    have kpb := pulled_ok hpl
    have KB := Lib.hid kpb
    have lb := (region_good kpb).2
    obtain ⟨Bpc0, Bpl⟩ := cb1 Bp
    obtain ⟨Bbc0, Bbl⟩ := cb1 Bb
    go_wp2
    clear Bpc0 Bbc0 Bpl Bbl
    go_loopw [8] (fun i wr => ∃ k : Nat, k ≤ 12 ∧ i = .int .i64 k ∧ Below W6.heap.size W6 wr) (fun i _ => 12 - (intOf i).toNat)
    case atStart => exact ⟨0, by omega, rfl, Below.refl _ _⟩
    case round =>
      obtain ⟨k, hk, rfl, hb0⟩ := hrel
      have K := hb0
      obtain ⟨W50, hW⟩ : ∃ W50, W50 = wr := ⟨_, rfl⟩
      rw [← hW] at K hb0 ⊢
      clear hW
      have TC := hb0
      replace T := T.trans (K.mono T.size)
      replace Bp := box_below Bp K
      replace Bb := box_below Bb K
      replace Xp := Xp.below K
      replace XI := XI.below K
      replace Xb := Xb.below K
      clear K Scode
      have Scode := Rcode.below (TV.trans (T.mono s0))
      by_cases hlt : k < 12
      · skip
        obtain ⟨Bpc0, Bpl⟩ := cb1 Bp
        obtain ⟨Bbc0, Bbl⟩ := cb1 Bb
        go_wp2_with fail
        clear Bpc0 Bbc0 Bpl Bbl
        refine (MakeWhole_any (n := 60 + 4 * (k : Int)) (Scode.below (by repeat (first | exact bR | refine bO ?_ | refine bA ?_ | refine bS ?_ | refine bD ?_ | refine bN ?_))) hm ⟨by omega, by omega⟩).mono ?_
        rintro e W51 ⟨x, y, rfl, bx, bY, hb⟩
        have K : Below W50.heap.size W50 W51 := Below.trans (by repeat (first | exact bR | refine bO ?_ | refine bA ?_ | refine bS ?_ | refine bD ?_ | refine bN ?_)) (hb.mono (by first | exact Nat.le_refl _ | simp [ov_size]))
        clear hb
        replace TC := TC.trans (K.mono TC.size)
        replace T := T.trans (K.mono T.size)
        replace Bp := box_below Bp K
        replace Bb := box_below Bb K
        replace Xp := Xp.below K
        replace XI := XI.below K
        replace Xb := Xb.below K
        clear K Scode
        have Scode := Rcode.below (TV.trans (T.mono s0))
        obtain ⟨Bpc0, Bpl⟩ := cb1 Bp
        obtain ⟨Bbc0, Bbl⟩ := cb1 Bb
        go_wp2_with fail
        clear Bpc0 Bbc0 Bpl Bbl
        obtain ⟨bs, hbx⟩ : ∃ b, b = W51.heap.size := ⟨_, rfl⟩
        rw [← hbx]
        obtain ⟨W52, hW⟩ : ∃ W, W = W51.alloc (.cells #[.int .i64 x, .int .i64 y, .int .i64 1] 34) := ⟨_, rfl⟩
        rw [← hW]
        have K : Below W51.heap.size W51 W52 := by rw [hW]; exact (by repeat (first | exact bR | refine bO ?_ | refine bA ?_ | refine bS ?_ | refine bD ?_ | refine bN ?_))
        have Bs := Lib.hid (show W52.heap[bs]? = some (.cells #[.int .i64 x, .int .i64 y, .int .i64 1] 34 (0, 0)) by rw [hW, hbx]; exact heap_alloc_new _ _)
        clear hW hbx
        replace TC := TC.trans (K.mono TC.size)
        replace T := T.trans (K.mono T.size)
        replace Bp := box_below Bp K
        replace Bb := box_below Bb K
        replace Xp := Xp.below K
        replace XI := XI.below K
        replace Xb := Xb.below K
        clear K Scode
        have Scode := Rcode.below (TV.trans (T.mono s0))
        obtain ⟨X, Y, D, hms, hso, ks⟩ := mapped_fine ka kb ke kf kq bx bY
        have HMS := Lib.hid hms
        have hlaw := pulled_law kq kp hpl bx bY hso ks
        have SB := spotOk_bd ks
        clear hms hso
        refine (calls_ov (impl_MapSpot_eq (m := [a1, b1, e1, f1]) HMS (XI.ri.below (by repeat (first | exact bR | refine bO ?_ | refine bA ?_ | refine bS ?_ | refine bD ?_ | refine bN ?_))) (by simp) (by omega) (by omega) (by omega))).mono ?_
        rintro e w' ⟨rfl, x9, rfl⟩
        obtain ⟨W53, hW⟩ : ∃ Z, Z = ov W52 x9 := ⟨_, rfl⟩
        rw [← hW]
        have K : Below W52.heap.size W52 W53 := by rw [hW]; exact (by repeat (first | exact bR | refine bO ?_ | refine bA ?_ | refine bS ?_ | refine bD ?_ | refine bN ?_))
        clear hW
        replace TC := TC.trans (K.mono TC.size)
        replace T := T.trans (K.mono T.size)
        replace Bp := box_below Bp K
        replace Bb := box_below Bb K
        replace Bs := box_below Bs K
        replace Xp := Xp.below K
        replace XI := XI.below K
        replace Xb := Xb.below K
        clear K Scode
        have Scode := Rcode.below (TV.trans (T.mono s0))
        obtain ⟨Bpc0, Bpl⟩ := cb1 Bp
        obtain ⟨Bbc0, Bbl⟩ := cb1 Bb
        obtain ⟨Bsc0, Bsc1, Bsc2, Bsl⟩ := cb3 Bs
        go_wp2_with fail
        clear Bpc0 Bbc0 Bsc0 Bsc1 Bsc2 Bpl Bbl Bsl
        obtain ⟨bx, hbx⟩ : ∃ b, b = W53.heap.size := ⟨_, rfl⟩
        rw [← hbx]
        obtain ⟨W54, hW⟩ : ∃ W, W = W53.alloc (.cells #[.int .i64 X, .int .i64 Y, .int .i64 D] 34) := ⟨_, rfl⟩
        rw [← hW]
        have K : Below W53.heap.size W53 W54 := by rw [hW]; exact (by repeat (first | exact bR | refine bO ?_ | refine bA ?_ | refine bS ?_ | refine bD ?_ | refine bN ?_))
        have Bx := Lib.hid (show W54.heap[bx]? = some (.cells #[.int .i64 X, .int .i64 Y, .int .i64 D] 34 (0, 0)) by rw [hW, hbx]; exact heap_alloc_new _ _)
        clear hW hbx
        replace TC := TC.trans (K.mono TC.size)
        replace T := T.trans (K.mono T.size)
        replace Bp := box_below Bp K
        replace Bb := box_below Bb K
        replace Bs := box_below Bs K
        replace Xp := Xp.below K
        replace XI := XI.below K
        replace Xb := Xb.below K
        clear K Scode
        have Scode := Rcode.below (TV.trans (T.mono s0))
        obtain ⟨hb1, hh1⟩ : ∃ t, hasSpotR pb x y 1 = t := ⟨_, rfl⟩
        obtain ⟨hp1, hh2⟩ : ∃ t, hasSpotR p X Y D = t := ⟨_, rfl⟩
        obtain ⟨vb, hv⟩ : ∃ t, decide (pb.length = 0) = t := ⟨_, rfl⟩
        rw [hh1, hh2] at hlaw
        have H1 := Lib.hid hh1
        have H2 := Lib.hid hh2
        have H3 := Lib.hid hv
        clear hh1 hh2
        cases vb with
        | true =>
          obtain rfl : hb1 = false := hlaw.1 (by simpa using hv)
          clear hlaw hv
          have TCs := TC.size
          obtain ⟨Bpc0, Bpl⟩ := cb1 Bp
          obtain ⟨Bbc0, Bbl⟩ := cb1 Bb
          obtain ⟨Bsc0, Bsc1, Bsc2, Bsl⟩ := cb3 Bs
          obtain ⟨Bxc0, Bxc1, Bxc2, Bxl⟩ := cb3 Bx
          go_wp2_with (first | (go_at_call 12; (first | (with_reducible refine (calls_ov2 (impl_HasSpot_eq (by exact Xb.below (by repeat (first | exact bR | refine bO ?_ | refine bA ?_ | refine bS ?_ | refine bD ?_ | refine bN ?_))) (by omega) (by first | exact SB | exact ⟨by omega, by omega, by omega⟩) (by exact H1))).mono ?_) | refine (calls_ov (impl_HasSpot_eq (by exact Xb.below (by repeat (first | exact bR | refine bO ?_ | refine bA ?_ | refine bS ?_ | refine bD ?_ | refine bN ?_))) (by omega) (by first | exact SB | exact ⟨by omega, by omega, by omega⟩) (by exact H1))).mono ?_); rintro e w' ⟨rfl, x, rfl⟩) | (go_at_call 12; (first | (with_reducible refine (calls_ov2 (impl_HasSpot_eq (by exact Xp.below (by repeat (first | exact bR | refine bO ?_ | refine bA ?_ | refine bS ?_ | refine bD ?_ | refine bN ?_))) (by omega) (by first | exact SB | exact ⟨by omega, by omega, by omega⟩) (by exact H2))).mono ?_) | refine (calls_ov (impl_HasSpot_eq (by exact Xp.below (by repeat (first | exact bR | refine bO ?_ | refine bA ?_ | refine bS ?_ | refine bD ?_ | refine bN ?_))) (by omega) (by first | exact SB | exact ⟨by omega, by omega, by omega⟩) (by exact H2))).mono ?_); rintro e w' ⟨rfl, x, rfl⟩) | (go_at_call 13; (first | (with_reducible refine (calls_ov2 (IsVoid_eq H3)).mono ?_) | refine (calls_ov (IsVoid_eq H3)).mono ?_); rintro e w' ⟨rfl, x, rfl⟩))
          go_roundw
          case rel => exact ⟨k + 1, by omega, by go_num, (by repeat (first | exact TC | refine bO ?_ | refine bA ?_ | refine bS ?_ | refine bD ?_ | refine bN ?_))⟩
          case measure => simp [intOf]; omega
        | false =>
          obtain rfl : hb1 = hp1 := hlaw.2 (by simpa using hv)
          clear hlaw hv
          cases hb1 with
          | true =>
            have TCs := TC.size
            obtain ⟨Bpc0, Bpl⟩ := cb1 Bp
            obtain ⟨Bbc0, Bbl⟩ := cb1 Bb
            obtain ⟨Bsc0, Bsc1, Bsc2, Bsl⟩ := cb3 Bs
            obtain ⟨Bxc0, Bxc1, Bxc2, Bxl⟩ := cb3 Bx
            go_wp2_with (first | (go_at_call 12; (first | (with_reducible refine (calls_ov2 (impl_HasSpot_eq (by exact Xb.below (by repeat (first | exact bR | refine bO ?_ | refine bA ?_ | refine bS ?_ | refine bD ?_ | refine bN ?_))) (by omega) (by first | exact SB | exact ⟨by omega, by omega, by omega⟩) (by exact H1))).mono ?_) | refine (calls_ov (impl_HasSpot_eq (by exact Xb.below (by repeat (first | exact bR | refine bO ?_ | refine bA ?_ | refine bS ?_ | refine bD ?_ | refine bN ?_))) (by omega) (by first | exact SB | exact ⟨by omega, by omega, by omega⟩) (by exact H1))).mono ?_); rintro e w' ⟨rfl, x, rfl⟩) | (go_at_call 12; (first | (with_reducible refine (calls_ov2 (impl_HasSpot_eq (by exact Xp.below (by repeat (first | exact bR | refine bO ?_ | refine bA ?_ | refine bS ?_ | refine bD ?_ | refine bN ?_))) (by omega) (by first | exact SB | exact ⟨by omega, by omega, by omega⟩) (by exact H2))).mono ?_) | refine (calls_ov (impl_HasSpot_eq (by exact Xp.below (by repeat (first | exact bR | refine bO ?_ | refine bA ?_ | refine bS ?_ | refine bD ?_ | refine bN ?_))) (by omega) (by first | exact SB | exact ⟨by omega, by omega, by omega⟩) (by exact H2))).mono ?_); rintro e w' ⟨rfl, x, rfl⟩) | (go_at_call 13; (first | (with_reducible refine (calls_ov2 (IsVoid_eq H3)).mono ?_) | refine (calls_ov (IsVoid_eq H3)).mono ?_); rintro e w' ⟨rfl, x, rfl⟩))
            go_roundw
            case rel => exact ⟨k + 1, by omega, by go_num, (by repeat (first | exact TC | refine bO ?_ | refine bA ?_ | refine bS ?_ | refine bD ?_ | refine bN ?_))⟩
            case measure => simp [intOf]; omega
          | false =>
            have TCs := TC.size
            obtain ⟨Bpc0, Bpl⟩ := cb1 Bp
            obtain ⟨Bbc0, Bbl⟩ := cb1 Bb
            obtain ⟨Bsc0, Bsc1, Bsc2, Bsl⟩ := cb3 Bs
            obtain ⟨Bxc0, Bxc1, Bxc2, Bxl⟩ := cb3 Bx
            go_wp2_with (first | (go_at_call 12; (first | (with_reducible refine (calls_ov2 (impl_HasSpot_eq (by exact Xb.below (by repeat (first | exact bR | refine bO ?_ | refine bA ?_ | refine bS ?_ | refine bD ?_ | refine bN ?_))) (by omega) (by first | exact SB | exact ⟨by omega, by omega, by omega⟩) (by exact H1))).mono ?_) | refine (calls_ov (impl_HasSpot_eq (by exact Xb.below (by repeat (first | exact bR | refine bO ?_ | refine bA ?_ | refine bS ?_ | refine bD ?_ | refine bN ?_))) (by omega) (by first | exact SB | exact ⟨by omega, by omega, by omega⟩) (by exact H1))).mono ?_); rintro e w' ⟨rfl, x, rfl⟩) | (go_at_call 12; (first | (with_reducible refine (calls_ov2 (impl_HasSpot_eq (by exact Xp.below (by repeat (first | exact bR | refine bO ?_ | refine bA ?_ | refine bS ?_ | refine bD ?_ | refine bN ?_))) (by omega) (by first | exact SB | exact ⟨by omega, by omega, by omega⟩) (by exact H2))).mono ?_) | refine (calls_ov (impl_HasSpot_eq (by exact Xp.below (by repeat (first | exact bR | refine bO ?_ | refine bA ?_ | refine bS ?_ | refine bD ?_ | refine bN ?_))) (by omega) (by first | exact SB | exact ⟨by omega, by omega, by omega⟩) (by exact H2))).mono ?_); rintro e w' ⟨rfl, x, rfl⟩) | (go_at_call 13; (first | (with_reducible refine (calls_ov2 (IsVoid_eq H3)).mono ?_) | refine (calls_ov (IsVoid_eq H3)).mono ?_); rintro e w' ⟨rfl, x, rfl⟩))
            go_roundw
            case rel => exact ⟨k + 1, by omega, by go_num, (by repeat (first | exact TC | refine bO ?_ | refine bA ?_ | refine bS ?_ | refine bD ?_ | refine bN ?_))⟩
            case measure => simp [intOf]; omega
      · have HB := TV.trans (T.mono s0)
        have HBs := HB.size
        obtain ⟨Bpc0, Bpl⟩ := cb1 Bp
        obtain ⟨Bbc0, Bbl⟩ := cb1 Bb
        go_wp2_with ((go_at_call 9; (first | (with_reducible refine (calls_ov2 (impl_RegionOk_eq (by exact Xb.below (by repeat (first | exact bR | refine bO ?_ | refine bA ?_ | refine bS ?_ | refine bD ?_ | refine bN ?_))) (by omega) KB)).mono ?_) | refine (calls_ov (impl_RegionOk_eq (by exact Xb.below (by repeat (first | exact bR | refine bO ?_ | refine bA ?_ | refine bS ?_ | refine bD ?_ | refine bN ?_))) (by omega) KB)).mono ?_); rintro e w' ⟨rfl, x, rfl⟩))
        go_ret
        exact ⟨rfl, (by repeat (first | exact HB | refine bO ?_ | refine bA ?_ | refine bS ?_ | refine bD ?_ | refine bN ?_))⟩
set_option maxRecDepth 100000 in
theorem FnPulled_lifted (os : Os) (started : os.Started) (H : Type) (enc : TypeId × Value → H) :
    ReturnsInHanded {} Try.checked os 3 .any (Rows.fnPulledSpec.pre6 enc Try.prog Try.f3 Rows.fnPulledRow.domain false) (Rows.fnPulledSpec.post enc Try.prog Try.f3 false true false false) := by
  refine returnsInHanded_of_change (C := Try.checked) own started (by kernel_rfl) Try.func3
    (ChangeSpec.witness6 (enc := enc) (C := Try.checked) false ⟨#[], #[.slice none 0 0], []⟩ 8 (by kernel_rfl) (by kernel_rfl) (by kernel_rfl) (by kernel_rfl)) ?_
  intro W base args ds gs before hval0 hW hcnd _
  have hval : ∀ (j : Nat) t v, Try.f3.params[j]? = some t → args[j]? = some v → Value.okWide Try.prog W .any base t v := hval0
  have hW' := hW
  obtain ⟨p, q, hA0, hV, rfl, hfz, hnd⟩ := hW
  have hA : DataW.TrodAll enc Try.prog W 0 (fun _ => true) true Try.f3.params.toList args.toList ds p := hA0
  rw [Try.params3] at hA hval
  obtain ⟨v0, vs0, d0, ds0, p0, q0, hargs0, rfl, rfl, h0, r0⟩ := trodAll_cons hA
  obtain ⟨rfl, rfl, rfl⟩ := trodAll_nil r0
  obtain rfl : args = #[v0] := by cases args; simp_all
  obtain ⟨rfl, rfl⟩ := trodVars_none hV
  have k0 := h0
  have lt0 : ∀ x ∈ p0, x.block < W.heap.size := by obtain ⟨m, hm⟩ := k0; exact DataW.trod_lt m _ _ _ hm
  have hv0 := hval 0 22 v0 rfl rfl
  obtain ⟨A0, c0, xs0, rfl, RR0, hlen0⟩ := open_bytes hv0 h0
  clear hA0 hval0
  refine (law18_any W RR0 hlen0).mono fun e W' ⟨he, bel⟩ => ?_
  subst he
  exact ⟨_, rfl, _, _, _, [], _, [], hW', trodAll_mk1 (shut_bool Try.underlying4 _), (trodAll_cons_mk (Below.trod laidOut (by kernel_rfl) (of_decide_eq_true (by kernel_rfl)) k0 bel lt0) trodAll_mk0), rfl, bel.frame _, fun h => by cases h⟩

theorem FnPulled_holds : Rows.FnPulledSaid :=
  OpenClaim.holds_of_wide 3 Try.f3 rfl rfl rfl rfl rfl rfl rfl ⟨rfl, rfl, rfl, rfl, rfl⟩ rfl rfl rfl rfl rfl (by kernel_rfl) Try.func3 (by kernel_rfl)
    (of_decide_eq_true (by kernel_rfl)) (by unfold Func.isWrapper; first | (rw [if_pos (by decide +kernel)]; kernel_rfl) | (rw [if_neg (by decide +kernel)]; exact ⟨rfl, rfl⟩))
    (fun os started H enc _ => FnPulled_lifted os started H enc)
#print axioms FnPulled_holds

end Go.Proofs.Ytbgdfdibpmfafaa
