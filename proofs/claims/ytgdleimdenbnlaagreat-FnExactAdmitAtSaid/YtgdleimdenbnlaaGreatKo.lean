/- Contracts of CentreInput, IsInput and AdmitHalf, of the program and of the reference. No condition but that the arguments are ints. -/
import Derived.Test.YtgdleimdenbnlaaGreatKn
import Derived.Test.YtgdleimdenbnlaaGreatRc
import Derived.Test.YtgdleimdenbnlaaGreatRt
import Derived.Test.YtgdleimdenbnlaaGreatHs
set_option linter.unusedVariables false
set_option linter.unusedSimpArgs false
set_option linter.unusedSectionVars false
namespace Go.Proofs.YtgdleimdenbnlaaGreat
open Go.RowKit

theorem whole_v (z : Int) (w : World) : Calls Tryz.prog 134 #[.int .i64 z] w fun e w' => e = .returned (.agg #[.int .i64 z, .int .i64 1]) ∧ Below w.heap.size w w' := by
  go_enter Tryz.func134, Tryz.ntmps134
  go_wp2
  refine bodyPost_ret (v := .agg #[.int .i64 z, .int .i64 1]) (by simp [results, Tryz.results134, go_sem]) rfl ⟨rfl, (by repeat (first | exact Below.refl _ _ | refine below_ov _ _ ?_ (by first | omega | (simp [ov_size] <;> omega)) | refine Below.alloc ?_ (by first | omega | (simp [ov_size] <;> omega)) _ | refine Below.setCell ?_ (by first | omega | (simp [ov_size] <;> omega)) _ | refine Below.drew ?_ | refine below_drewN ?_ _))⟩
theorem whole_rat {n : Int} (hn : -1000000000000000000 ≤ n ∧ n ≤ 1000000000000000000) : ratioOk n 1 = true := by
  have e : gcdS n 1 = 1 := by rw [gcdS_eq _ _ (by omega) (by omega)]; simp
  simp [ratioOk, e, inR]; omega
theorem ratOf_one {n : Int} (hn : -1000000000000000000 ≤ n ∧ n ≤ 1000000000000000000) : ratOf n 1 = (n, 1) := by
  have e : gcdL [n, 1] = 1 := by simp [gcdL]
  rw [ratOf_red (a := n) (b := 1) (g := 1) e (by simp) (by simp), if_pos (whole_rat hn)]
theorem impl_RatioCmp_v {n d m e c : Int} {w : World} (h : Hid (ratioCmp n d m e = c)) (hn : -9223372036854775808 ≤ n ∧ n ≤ 9223372036854775807) (hd : -9223372036854775808 ≤ d ∧ d ≤ 9223372036854775807) (hm : -9223372036854775808 ≤ m ∧ m ≤ 9223372036854775807) (he : -9223372036854775808 ≤ e ∧ e ≤ 9223372036854775807) :
    Calls Tryz.prog 104 #[.agg #[.int .i64 n, .int .i64 d], .agg #[.int .i64 m, .int .i64 e]] w fun e' w' => e' = .returned (.int .i64 c) ∧ Below w.heap.size w w' := by
  have := impl_RatioCmp_any n d m e w hn hd hm he
  rw [h.out] at this; exact this

def centreR (r : RoomV) : Int × Int := if roomOk r = true then ratOf (r.lo + r.hi) 2 else (0, 0)
def isInB (lo hi n d : Int) : Bool := ratioOk n d && decide (ratioCmp lo 1 n d ≤ 0) && decide (ratioCmp n d hi 1 ≤ 0)
def isInputR (r : RoomV) (n d : Int) : Bool := roomOk r && ratioOk n d && inR n (r.lo * d) (r.hi * d)
theorem isInput_same (r : RoomV) (n d : Int) : (isInB r.lo r.hi n d && roomOk r) = isInputR r n d := by
  unfold isInB isInputR
  cases hr : roomOk r with
  | false => simp
  | true =>
    cases hq : ratioOk n d with
    | false => simp
    | true =>
      have P := roomOk_parts hr
      have b1 := P.lo
      have b2 := P.hi
      have w1 := whole_rat (n := r.lo) (by omega)
      have w2 := whole_rat (n := r.hi) (by omega)
      have e1 : (ratioCmp r.lo 1 n d ≤ 0) ↔ r.lo * d ≤ n := by
        unfold ratioCmp cmpF
        rw [if_pos ⟨w1, hq⟩, Int.mul_one]
        split
        · constructor <;> intro <;> omega
        · split
          · constructor <;> intro <;> omega
          · constructor <;> intro <;> omega
      have e2 : (ratioCmp n d r.hi 1 ≤ 0) ↔ n ≤ r.hi * d := by
        unfold ratioCmp cmpF
        rw [if_pos ⟨hq, w2⟩, Int.mul_one]
        split
        · constructor <;> intro <;> omega
        · split
          · constructor <;> intro <;> omega
          · constructor <;> intro <;> omega
      simp only [Bool.true_and, Bool.and_true, inR, e1, e2]
set_option maxRecDepth 100000 in
set_option maxHeartbeats 4000000 in
theorem isInput_eq {r : RoomV} {n d : Int} {v : Bool} {A1 A2 A3 : Option Addr} {c1 c2 c3 : Nat} {w : World} (hl : r.InL) (hn : -9223372036854775808 ≤ n ∧ n ≤ 9223372036854775807) (hd : -9223372036854775808 ≤ d ∧ d ≤ 9223372036854775807) (h : Hid (isInB r.lo r.hi n d = v)) :
    Calls Tryz.prog 112 #[.agg #[.slice A1 r.m.length c1, .int .i64 r.q, .int .i64 r.bx, .int .i64 r.by_, .int .i64 r.lo, .int .i64 r.hi, .slice A2 r.ns.length c2, .slice A3 r.ls.length c3], .agg #[.int .i64 n, .int .i64 d]] w fun e w' => e = .returned (.bool v) ∧ Below w.heap.size w w' := by
  have bl := hl.lo
  have bh := hl.hi
  obtain ⟨t1, h1⟩ : ∃ t, ratioOk n d = t := ⟨_, rfl⟩
  obtain ⟨k1, e1⟩ : ∃ t, ratioCmp r.lo 1 n d = t := ⟨_, rfl⟩
  obtain ⟨k2, e2⟩ : ∃ t, ratioCmp n d r.hi 1 = t := ⟨_, rfl⟩
  have hv := h.out
  unfold isInB at hv
  rw [h1, e1, e2] at hv
  have H1 := Lib.hid h1
  have E1 := Lib.hid e1
  have E2 := Lib.hid e2
  obtain ⟨u1, d1⟩ : ∃ t, decide (k1 ≤ 0) = t := ⟨_, rfl⟩
  obtain ⟨u2, d2⟩ : ∃ t, decide (k2 ≤ 0) = t := ⟨_, rfl⟩
  rw [d1, d2] at hv
  have hc : (v = false ∧ (t1 = false ∨ (t1 = true ∧ u1 = false) ∨ (t1 = true ∧ u1 = true ∧ u2 = false))) ∨ (v = true ∧ t1 = true ∧ u1 = true ∧ u2 = true) := by
    cases t1 <;> cases u1 <;> cases u2 <;> simp at hv ⊢ <;> (first | exact hv | exact hv.symm)
  clear hv h1 e1 e2 h hl
  rcases hc with ⟨rfl, rfl | ⟨rfl, rfl⟩ | ⟨rfl, rfl, rfl⟩⟩ | ⟨rfl, rfl, rfl, rfl⟩
  all_goals
    go_enter Tryz.func112, Tryz.ntmps112
    go_wp2
    ((first | (with_reducible refine wp_region_calm2 (by kernel_rfl) (by kernel_rfl) ?_) | refine wp_region_calm (by kernel_rfl) (by kernel_rfl) ?_); (repeat (go_big_quiet_step (first | first | (go_at_call 105; exact calm_below (impl_RatioOk_eq (by exact H1.out) (by omega) (by omega))) | (go_at_call 134; exact calm_below (whole_v _ _)) | (go_at_call 104; exact calm_below (impl_RatioCmp_v (by first | exact E1 | exact E2) (by omega) (by omega) (by omega) (by omega)))))); refine wpQuiet_nil ?_; rintro _ ⟨y, rfl⟩)
    go_wp2
    go_ret
    exact ⟨rfl, (by repeat (first | exact Below.refl _ _ | refine below_ov _ _ ?_ (by first | omega | (simp [ov_size] <;> omega)) | refine Below.alloc ?_ (by first | omega | (simp [ov_size] <;> omega)) _ | refine Below.setCell ?_ (by first | omega | (simp [ov_size] <;> omega)) _ | refine Below.drew ?_ | refine below_drewN ?_ _))⟩
set_option maxRecDepth 100000 in
set_option maxHeartbeats 4000000 in
theorem impl_IsInput_eq {r : RoomV} {n d : Int} {v : Bool} {A1 A2 A3 : Option Addr} {c1 c2 c3 : Nat} {w : World} (M : RM w r A1 A2 c2 A3 c3) (hs : r.Short) (hl : r.InL) (hn : -9223372036854775808 ≤ n ∧ n ≤ 9223372036854775807) (hd : -9223372036854775808 ≤ d ∧ d ≤ 9223372036854775807) (h : Hid (isInputR r n d = v)) :
    Calls Tryz.prog 62 #[.agg #[.slice A1 r.m.length c1, .int .i64 r.q, .int .i64 r.bx, .int .i64 r.by_, .int .i64 r.lo, .int .i64 r.hi, .slice A2 r.ns.length c2, .slice A3 r.ls.length c3], .agg #[.int .i64 n, .int .i64 d]] w fun e w' => e = .returned (.bool v) ∧ Below w.heap.size w w' := by
  have hv := h.out
  rw [← isInput_same] at hv
  obtain ⟨t1, h1⟩ : ∃ t, isInB r.lo r.hi n d = t := ⟨_, rfl⟩
  obtain ⟨t2, h2⟩ : ∃ t, roomOk r = t := ⟨_, rfl⟩
  rw [h1, h2] at hv
  have H1 := Lib.hid h1
  have H2 := Lib.hid h2
  clear h1 h2 h
  have hc : (v = false ∧ (t1 = false ∨ (t1 = true ∧ t2 = false))) ∨ (v = true ∧ t1 = true ∧ t2 = true) := by
    cases t1 <;> cases t2 <;> simp at hv ⊢ <;> (first | exact hv | exact hv.symm)
  clear hv
  rcases hc with ⟨rfl, rfl | ⟨rfl, rfl⟩⟩ | ⟨rfl, rfl, rfl⟩
  all_goals
    go_enter Tryz.func62, Tryz.ntmps62
    go_wp2_with (first | (go_at_call 112; (first | (with_reducible refine (calls_ov2 (isInput_eq hl hn hd H1)).mono ?_) | refine (calls_ov (isInput_eq hl hn hd H1)).mono ?_); rintro e w' ⟨rfl, x, rfl⟩) | (go_at_call 72; (first | (with_reducible refine (calls_ov2 (impl_RoomOk_eq (M.below (by repeat (first | exact Below.refl _ _ | refine below_ov _ _ ?_ (by first | omega | (simp [ov_size] <;> omega)) | refine Below.alloc ?_ (by first | omega | (simp [ov_size] <;> omega)) _ | refine Below.setCell ?_ (by first | omega | (simp [ov_size] <;> omega)) _ | refine Below.drew ?_ | refine below_drewN ?_ _))) hs H2)).mono ?_) | refine (calls_ov (impl_RoomOk_eq (M.below (by repeat (first | exact Below.refl _ _ | refine below_ov _ _ ?_ (by first | omega | (simp [ov_size] <;> omega)) | refine Below.alloc ?_ (by first | omega | (simp [ov_size] <;> omega)) _ | refine Below.setCell ?_ (by first | omega | (simp [ov_size] <;> omega)) _ | refine Below.drew ?_ | refine below_drewN ?_ _))) hs H2)).mono ?_); rintro e w' ⟨rfl, x, rfl⟩))
    go_ret
    exact ⟨rfl, (by repeat (first | exact Below.refl _ _ | refine below_ov _ _ ?_ (by first | omega | (simp [ov_size] <;> omega)) | refine Below.alloc ?_ (by first | omega | (simp [ov_size] <;> omega)) _ | refine Below.setCell ?_ (by first | omega | (simp [ov_size] <;> omega)) _ | refine Below.drew ?_ | refine below_drewN ?_ _))⟩
set_option maxRecDepth 100000 in
set_option maxHeartbeats 4000000 in
theorem spec_IsInput_eq {r : RoomV} {n d : Int} {v : Bool} {A1 A2 A3 : Option Addr} {c1 c2 c3 : Nat} {w : World} (M : RM w r A1 A2 c2 A3 c3) (hs : r.Short) (hl : r.InL) (hn : -9223372036854775808 ≤ n ∧ n ≤ 9223372036854775807) (hd : -9223372036854775808 ≤ d ∧ d ≤ 9223372036854775807) (h : Hid (isInputR r n d = v)) :
    Calls Tryz.prog 54 #[.agg #[.slice A1 r.m.length c1, .int .i64 r.q, .int .i64 r.bx, .int .i64 r.by_, .int .i64 r.lo, .int .i64 r.hi, .slice A2 r.ns.length c2, .slice A3 r.ls.length c3], .agg #[.int .i64 n, .int .i64 d]] w fun e w' => e = .returned (.bool v) ∧ Below w.heap.size w w' := by
  have hv := h.out
  unfold isInputR at hv
  obtain ⟨t1, h1⟩ : ∃ t, roomOk r = t := ⟨_, rfl⟩
  obtain ⟨t2, h2⟩ : ∃ t, ratioOk n d = t := ⟨_, rfl⟩
  obtain ⟨t3, h3⟩ : ∃ t, inR n (r.lo * d) (r.hi * d) = t := ⟨_, rfl⟩
  rw [h1, h2, h3] at hv
  have H1 := Lib.hid h1
  have H2 := Lib.hid h2
  have H3 := Lib.hid h3
  have hb : t1 = true → t2 = true → (-1000000000000000000 ≤ r.lo * d ∧ r.lo * d ≤ 1000000000000000000) ∧ (-1000000000000000000 ≤ r.hi * d ∧ r.hi * d ≤ 1000000000000000000) := fun q1 q2 => by
    have P := roomOk_parts (h1.trans q1)
    have b1 := P.lo
    have b2 := P.hi
    have b3 := (ratioOk_bd (h2.trans q2)).1
    exact ⟨mul_bd (A := 1000) (B := 1000000000000000) b1 (by omega), mul_bd (A := 1000) (B := 1000000000000000) (by omega) (by omega)⟩
  clear h1 h2 h3 h hl
  have hc : (v = false ∧ (t1 = false ∨ (t1 = true ∧ t2 = false) ∨ (t1 = true ∧ t2 = true ∧ t3 = false))) ∨ (v = true ∧ t1 = true ∧ t2 = true ∧ t3 = true) := by
    cases t1 <;> cases t2 <;> cases t3 <;> simp at hv ⊢ <;> (first | exact hv | exact hv.symm)
  clear hv
  rcases hc with ⟨rfl, rfl | ⟨rfl, rfl⟩ | ⟨rfl, rfl, rfl⟩⟩ | ⟨rfl, rfl, rfl, rfl⟩
  · clear hb
    go_enter Tryz.func54, Tryz.ntmps54
    go_wp2_with (first | (go_at_call 70; (first | (with_reducible refine (calls_ov2 (spec_RoomOk_eq (M.below (by repeat (first | exact Below.refl _ _ | refine below_ov _ _ ?_ (by first | omega | (simp [ov_size] <;> omega)) | refine Below.alloc ?_ (by first | omega | (simp [ov_size] <;> omega)) _ | refine Below.setCell ?_ (by first | omega | (simp [ov_size] <;> omega)) _ | refine Below.drew ?_ | refine below_drewN ?_ _))) hs H1)).mono ?_) | refine (calls_ov (spec_RoomOk_eq (M.below (by repeat (first | exact Below.refl _ _ | refine below_ov _ _ ?_ (by first | omega | (simp [ov_size] <;> omega)) | refine Below.alloc ?_ (by first | omega | (simp [ov_size] <;> omega)) _ | refine Below.setCell ?_ (by first | omega | (simp [ov_size] <;> omega)) _ | refine Below.drew ?_ | refine below_drewN ?_ _))) hs H1)).mono ?_); rintro e w' ⟨rfl, x, rfl⟩) | (go_at_call 100; (first | (with_reducible refine (calls_ov2 (spec_RatioOk_eq (by exact H2.out) (by omega) (by omega))).mono ?_) | refine (calls_ov (spec_RatioOk_eq (by exact H2.out) (by omega) (by omega))).mono ?_); rintro e w' ⟨rfl, x, rfl⟩) | (go_at_call 90; refine (l01In_eq (by exact H3.out)).mono ?_; rintro e w' ⟨rfl, rfl⟩))
    go_ret
    exact ⟨rfl, (by repeat (first | exact Below.refl _ _ | refine below_ov _ _ ?_ (by first | omega | (simp [ov_size] <;> omega)) | refine Below.alloc ?_ (by first | omega | (simp [ov_size] <;> omega)) _ | refine Below.setCell ?_ (by first | omega | (simp [ov_size] <;> omega)) _ | refine Below.drew ?_ | refine below_drewN ?_ _))⟩
  · clear hb
    go_enter Tryz.func54, Tryz.ntmps54
    go_wp2_with (first | (go_at_call 70; (first | (with_reducible refine (calls_ov2 (spec_RoomOk_eq (M.below (by repeat (first | exact Below.refl _ _ | refine below_ov _ _ ?_ (by first | omega | (simp [ov_size] <;> omega)) | refine Below.alloc ?_ (by first | omega | (simp [ov_size] <;> omega)) _ | refine Below.setCell ?_ (by first | omega | (simp [ov_size] <;> omega)) _ | refine Below.drew ?_ | refine below_drewN ?_ _))) hs H1)).mono ?_) | refine (calls_ov (spec_RoomOk_eq (M.below (by repeat (first | exact Below.refl _ _ | refine below_ov _ _ ?_ (by first | omega | (simp [ov_size] <;> omega)) | refine Below.alloc ?_ (by first | omega | (simp [ov_size] <;> omega)) _ | refine Below.setCell ?_ (by first | omega | (simp [ov_size] <;> omega)) _ | refine Below.drew ?_ | refine below_drewN ?_ _))) hs H1)).mono ?_); rintro e w' ⟨rfl, x, rfl⟩) | (go_at_call 100; (first | (with_reducible refine (calls_ov2 (spec_RatioOk_eq (by exact H2.out) (by omega) (by omega))).mono ?_) | refine (calls_ov (spec_RatioOk_eq (by exact H2.out) (by omega) (by omega))).mono ?_); rintro e w' ⟨rfl, x, rfl⟩) | (go_at_call 90; refine (l01In_eq (by exact H3.out)).mono ?_; rintro e w' ⟨rfl, rfl⟩))
    go_ret
    exact ⟨rfl, (by repeat (first | exact Below.refl _ _ | refine below_ov _ _ ?_ (by first | omega | (simp [ov_size] <;> omega)) | refine Below.alloc ?_ (by first | omega | (simp [ov_size] <;> omega)) _ | refine Below.setCell ?_ (by first | omega | (simp [ov_size] <;> omega)) _ | refine Below.drew ?_ | refine below_drewN ?_ _))⟩
  all_goals
    obtain ⟨b1, b2⟩ := hb rfl rfl
    clear hb
    go_enter Tryz.func54, Tryz.ntmps54
    go_wp2_with (first | (go_at_call 70; (first | (with_reducible refine (calls_ov2 (spec_RoomOk_eq (M.below (by repeat (first | exact Below.refl _ _ | refine below_ov _ _ ?_ (by first | omega | (simp [ov_size] <;> omega)) | refine Below.alloc ?_ (by first | omega | (simp [ov_size] <;> omega)) _ | refine Below.setCell ?_ (by first | omega | (simp [ov_size] <;> omega)) _ | refine Below.drew ?_ | refine below_drewN ?_ _))) hs H1)).mono ?_) | refine (calls_ov (spec_RoomOk_eq (M.below (by repeat (first | exact Below.refl _ _ | refine below_ov _ _ ?_ (by first | omega | (simp [ov_size] <;> omega)) | refine Below.alloc ?_ (by first | omega | (simp [ov_size] <;> omega)) _ | refine Below.setCell ?_ (by first | omega | (simp [ov_size] <;> omega)) _ | refine Below.drew ?_ | refine below_drewN ?_ _))) hs H1)).mono ?_); rintro e w' ⟨rfl, x, rfl⟩) | (go_at_call 100; (first | (with_reducible refine (calls_ov2 (spec_RatioOk_eq (by exact H2.out) (by omega) (by omega))).mono ?_) | refine (calls_ov (spec_RatioOk_eq (by exact H2.out) (by omega) (by omega))).mono ?_); rintro e w' ⟨rfl, x, rfl⟩) | (go_at_call 90; refine (l01In_eq (by exact H3.out)).mono ?_; rintro e w' ⟨rfl, rfl⟩))
    go_ret
    exact ⟨rfl, (by repeat (first | exact Below.refl _ _ | refine below_ov _ _ ?_ (by first | omega | (simp [ov_size] <;> omega)) | refine Below.alloc ?_ (by first | omega | (simp [ov_size] <;> omega)) _ | refine Below.setCell ?_ (by first | omega | (simp [ov_size] <;> omega)) _ | refine Below.drew ?_ | refine below_drewN ?_ _))⟩

def slopeI (r : RoomV) (g : H3) : Int := g.a * r.bx + g.b * r.by_
def admitHalfR (r : RoomV) (g : H3) : (Int × Int) × Int := if roomOk r = true ∧ halfOk g = true then ((slopeI r g, 1), sgn (slopeI r g)) else ((0, 0), 0)
structure SlopeBd (r : RoomV) (g : H3) : Prop where
  p1 : -5000000 ≤ g.a * r.bx ∧ g.a * r.bx ≤ 5000000
  p2 : -5000000 ≤ g.b * r.by_ ∧ g.b * r.by_ ≤ 5000000
theorem slope_bd {r : RoomV} {g : H3} (P : RoomP r) (k : HOk g) : SlopeBd r g := ⟨mul_bd (A := 50000) (B := 100) k.ba P.bx, mul_bd (A := 50000) (B := 100) k.bb P.by_⟩
theorem slope_eq {r : RoomV} {g : H3} {A1 A2 A3 : Option Addr} {c1 c2 c3 : Nat} {n : Int} {w : World} (B : SlopeBd r g) (h : Hid (slopeI r g = n)) :
    Calls Tryz.prog 135 #[.agg #[.slice A1 r.m.length c1, .int .i64 r.q, .int .i64 r.bx, .int .i64 r.by_, .int .i64 r.lo, .int .i64 r.hi, .slice A2 r.ns.length c2, .slice A3 r.ls.length c3], .agg #[.int .i64 g.a, .int .i64 g.b, .int .i64 g.c]] w fun e w' => e = .returned (.int .i64 n) ∧ Below w.heap.size w w' := by
  have h' := h.out
  clear h
  unfold slopeI at h'
  subst h'
  obtain ⟨p1, p2⟩ := B
  go_enter Tryz.func135, Tryz.ntmps135
  go_wp2
  go_ret
  exact ⟨rfl, (by repeat (first | exact Below.refl _ _ | refine below_ov _ _ ?_ (by first | omega | (simp [ov_size] <;> omega)) | refine Below.alloc ?_ (by first | omega | (simp [ov_size] <;> omega)) _ | refine Below.setCell ?_ (by first | omega | (simp [ov_size] <;> omega)) _ | refine Below.drew ?_ | refine below_drewN ?_ _))⟩
end Go.Proofs.YtgdleimdenbnlaaGreat
