/- Several texts in one: Rc, Ko. Each says its own conditions. -/
import Derived.Test.YtabmfaamadbefaaGreatRt
import Derived.Test.YtabmfaamadbefaaGreatGp
/- Contract of the program's RatioCmp. Condition: the numbers are ints. -/
set_option linter.unusedSimpArgs false
set_option linter.unusedVariables false
set_option linter.unusedSectionVars false
namespace Go.Proofs.YtabmfaamadbefaaGreat
open Go.RowKit Go.Lib
theorem impl_RatioCmp_any (n d m e : Int) (w : World) (hn : -9223372036854775808 ≤ n ∧ n ≤ 9223372036854775807) (hd : -9223372036854775808 ≤ d ∧ d ≤ 9223372036854775807) (hm : -9223372036854775808 ≤ m ∧ m ≤ 9223372036854775807) (he : -9223372036854775808 ≤ e ∧ e ≤ 9223372036854775807) :
    Calls Tryz.prog 35 #[.agg #[.int .i64 n, .int .i64 d], .agg #[.int .i64 m, .int .i64 e]] w fun e' w' => e' = .returned (.int .i64 (ratioCmp n d m e)) ∧ Below w.heap.size w w' := by
  have HS := Lib.hid (show (if ratioOk n d = true ∧ ratioOk m e = true then cmpF n d m e else 0) = ratioCmp n d m e from rfl)
  rcases chain2 (ratioOk n d) (ratioOk m e) with h1 | ⟨h1, h2⟩ | ⟨h1, h2⟩
  · go_enter Tryz.func35, Tryz.ntmps35
    go_wp2_with (first | (go_at_call 64; (first | (with_reducible refine (calls_ov2 (impl_RatioOk_eq (by assumption) (by omega) (by omega))).mono ?_) | refine (calls_ov (impl_RatioOk_eq (by assumption) (by omega) (by omega))).mono ?_); rintro e w' ⟨rfl, x, rfl⟩))
    go_ret
    exact ⟨ret_int (by rw [← HS.out, if_neg (by rw [h1]; simp)]), (by repeat (first | exact bR | refine bO ?_ | refine bA ?_ | refine bS ?_ | refine bD ?_ | refine bN ?_))⟩
  · go_enter Tryz.func35, Tryz.ntmps35
    go_wp2_with (first | (go_at_call 64; (first | (with_reducible refine (calls_ov2 (impl_RatioOk_eq (by assumption) (by omega) (by omega))).mono ?_) | refine (calls_ov (impl_RatioOk_eq (by assumption) (by omega) (by omega))).mono ?_); rintro e w' ⟨rfl, x, rfl⟩))
    go_ret
    exact ⟨ret_int (by rw [← HS.out, if_neg (by rw [h2]; simp)]), (by repeat (first | exact bR | refine bO ?_ | refine bA ?_ | refine bS ?_ | refine bD ?_ | refine bN ?_))⟩
  · have q1 := ratioOk_bd h1
    have q2 := ratioOk_bd h2
    go_enter Tryz.func35, Tryz.ntmps35
    go_wp2_with (first | (go_at_call 64; (first | (with_reducible refine (calls_ov2 (impl_RatioOk_eq (by assumption) (by omega) (by omega))).mono ?_) | refine (calls_ov (impl_RatioOk_eq (by assumption) (by omega) (by omega))).mono ?_); rintro e w' ⟨rfl, x, rfl⟩) | (go_at_call 73; refine (compareFractions_any _ _ _ _ _ (by omega) (by omega) (by omega) (by omega)).mono ?_; rintro e w' ⟨rfl, rfl⟩))
    go_ret
    exact ⟨ret_int (by rw [← HS.out, if_pos ⟨h1, h2⟩]), (by repeat (first | exact bR | refine bO ?_ | refine bA ?_ | refine bS ?_ | refine bD ?_ | refine bN ?_))⟩

end Go.Proofs.YtabmfaamadbefaaGreat
/- Contracts of CentreInput, IsInput and AdmitHalf, of the program and of the reference. No condition but that the arguments are ints. -/
set_option linter.unusedVariables false
set_option linter.unusedSimpArgs false
set_option linter.unusedSectionVars false
namespace Go.Proofs.YtabmfaamadbefaaGreat
open Go.RowKit
theorem whole_v (z : Int) (w : World) : Calls Tryz.prog 76 #[.int .i64 z] w fun e w' => e = .returned (.agg #[.int .i64 z, .int .i64 1]) ∧ Below w.heap.size w w' := by
  go_enter Tryz.func76, Tryz.ntmps76
  go_wp2
  refine bodyPost_ret (v := .agg #[.int .i64 z, .int .i64 1]) (by simp [results, Tryz.results76, go_sem]) rfl ⟨rfl, (by repeat (first | exact bR | refine bO ?_ | refine bA ?_ | refine bS ?_ | refine bD ?_ | refine bN ?_))⟩
theorem whole_rat {n : Int} (hn : -1000000000000000000 ≤ n ∧ n ≤ 1000000000000000000) : ratioOk n 1 = true := by
  have e : gcdS n 1 = 1 := by rw [gcdS_eq _ _ (by omega) (by omega)]; simp
  simp [ratioOk, e, inR]; omega
theorem ratOf_one {n : Int} (hn : -1000000000000000000 ≤ n ∧ n ≤ 1000000000000000000) : ratOf n 1 = (n, 1) := by
  have e : gcdL [n, 1] = 1 := by simp [gcdL]
  rw [ratOf_red (a := n) (b := 1) (g := 1) e (by simp) (by simp), if_pos (whole_rat hn)]
theorem impl_RatioCmp_v {n d m e c : Int} {w : World} (h : Hid (ratioCmp n d m e = c)) (hn : -9223372036854775808 ≤ n ∧ n ≤ 9223372036854775807) (hd : -9223372036854775808 ≤ d ∧ d ≤ 9223372036854775807) (hm : -9223372036854775808 ≤ m ∧ m ≤ 9223372036854775807) (he : -9223372036854775808 ≤ e ∧ e ≤ 9223372036854775807) :
    Calls Tryz.prog 35 #[.agg #[.int .i64 n, .int .i64 d], .agg #[.int .i64 m, .int .i64 e]] w fun e' w' => e' = .returned (.int .i64 c) ∧ Below w.heap.size w w' := by
  have := impl_RatioCmp_any n d m e w hn hd hm he
  rw [h.out] at this; exact this

def centreR (r : RoomV) : Int × Int := if roomOk r = true then ratOf (r.lo + r.hi) 2 else (0, 0)
set_option maxRecDepth 100000 in
set_option maxHeartbeats 4000000 in
theorem impl_CentreInput_eq {r : RoomV} {p q : Int} {A1 A2 A3 : Option Addr} {c1 c2 c3 : Nat} {w : World} (M : RM w r A1 A2 c2 A3 c3) (hs : r.Short) (hr : Hid (centreR r = (p, q))) :
    Calls Tryz.prog 33 #[.agg #[.slice A1 r.m.length c1, .int .i64 r.q, .int .i64 r.bx, .int .i64 r.by_, .int .i64 r.lo, .int .i64 r.hi, .slice A2 r.ns.length c2, .slice A3 r.ls.length c3]] w fun e w' => e = .returned (.agg #[.int .i64 p, .int .i64 q]) ∧ Below w.heap.size w w' := by
  have h := hr.out
  clear hr
  unfold centreR at h
  obtain ⟨v, hv⟩ : ∃ v, roomOk r = v := ⟨_, rfl⟩
  rw [hv] at h
  have HV := Lib.hid hv
  cases v with
  | false =>
    rw [if_neg (by simp)] at h
    simp at h
    obtain ⟨rfl, rfl⟩ := h
    clear hv
    go_enter Tryz.func33, Tryz.ntmps33
    go_wp2_with ((go_at_call 13; (first | (with_reducible refine (calls_ov2 (impl_RoomOk_eq (M.below (by repeat (first | exact bR | refine bO ?_ | refine bA ?_ | refine bS ?_ | refine bD ?_ | refine bN ?_))) hs HV)).mono ?_) | refine (calls_ov (impl_RoomOk_eq (M.below (by repeat (first | exact bR | refine bO ?_ | refine bA ?_ | refine bS ?_ | refine bD ?_ | refine bN ?_))) hs HV)).mono ?_); rintro e w' ⟨rfl, x, rfl⟩))
    refine bodyPost_ret (v := .agg #[.int .i64 0, .int .i64 0]) (by simp [results, Tryz.results33, go_sem]) rfl ⟨rfl, (by repeat (first | exact bR | refine bO ?_ | refine bA ?_ | refine bS ?_ | refine bD ?_ | refine bN ?_))⟩
  | true =>
    rw [if_pos rfl] at h
    have P := roomOk_parts hv
    have b1 := P.lo
    have b2 := P.hi
    have HR := Lib.hid h
    clear hv h P
    go_enter Tryz.func33, Tryz.ntmps33
    go_wp2_with (first | (go_at_call 13; (first | (with_reducible refine (calls_ov2 (impl_RoomOk_eq (M.below (by repeat (first | exact bR | refine bO ?_ | refine bA ?_ | refine bS ?_ | refine bD ?_ | refine bN ?_))) hs HV)).mono ?_) | refine (calls_ov (impl_RoomOk_eq (M.below (by repeat (first | exact bR | refine bO ?_ | refine bA ?_ | refine bS ?_ | refine bD ?_ | refine bN ?_))) hs HV)).mono ?_); rintro e w' ⟨rfl, x, rfl⟩) | (go_at_call 36; (first | (with_reducible refine (calls_ov2 (impl_RatioOf_eq HR (by omega) (by omega))).mono ?_) | refine (calls_ov (impl_RatioOf_eq HR (by omega) (by omega))).mono ?_); rintro e w' ⟨rfl, x, rfl⟩))
    refine bodyPost_ret (v := .agg #[.int .i64 p, .int .i64 q]) (by simp [results, Tryz.results33, go_sem]) rfl ⟨rfl, (by repeat (first | exact bR | refine bO ?_ | refine bA ?_ | refine bS ?_ | refine bD ?_ | refine bN ?_))⟩
def isInB (lo hi n d : Int) : Bool := ratioOk n d && decide (ratioCmp lo 1 n d ≤ 0) && decide (ratioCmp n d hi 1 ≤ 0)
def isInputR (r : RoomV) (n d : Int) : Bool := roomOk r && ratioOk n d && inR n (r.lo * d) (r.hi * d)
theorem isInput_same (r : RoomV) (n d : Int) : (isInB r.lo r.hi n d && roomOk r) = isInputR r n d := by
  unfold isInB isInputR
  cases hr : roomOk r with
  | false => simp
  | true =>
    cases hq : ratioOk n d with
    | false => simp
    | true =>
      have P := roomOk_parts hr
      have b1 := P.lo
      have b2 := P.hi
      have w1 := whole_rat (n := r.lo) (by omega)
      have w2 := whole_rat (n := r.hi) (by omega)
      have e1 : (ratioCmp r.lo 1 n d ≤ 0) ↔ r.lo * d ≤ n := by
        unfold ratioCmp cmpF
        rw [if_pos ⟨w1, hq⟩, Int.mul_one]
        split
        · constructor <;> intro <;> omega
        · split
          · constructor <;> intro <;> omega
          · constructor <;> intro <;> omega
      have e2 : (ratioCmp n d r.hi 1 ≤ 0) ↔ n ≤ r.hi * d := by
        unfold ratioCmp cmpF
        rw [if_pos ⟨hq, w2⟩, Int.mul_one]
        split
        · constructor <;> intro <;> omega
        · split
          · constructor <;> intro <;> omega
          · constructor <;> intro <;> omega
      simp only [Bool.true_and, Bool.and_true, inR, e1, e2]
set_option maxRecDepth 100000 in
set_option maxHeartbeats 4000000 in
theorem isInput_eq {r : RoomV} {n d : Int} {v : Bool} {A1 A2 A3 : Option Addr} {c1 c2 c3 : Nat} {w : World} (hl : r.InL) (hn : -9223372036854775808 ≤ n ∧ n ≤ 9223372036854775807) (hd : -9223372036854775808 ≤ d ∧ d ≤ 9223372036854775807) (h : Hid (isInB r.lo r.hi n d = v)) :
    Calls Tryz.prog 79 #[.agg #[.slice A1 r.m.length c1, .int .i64 r.q, .int .i64 r.bx, .int .i64 r.by_, .int .i64 r.lo, .int .i64 r.hi, .slice A2 r.ns.length c2, .slice A3 r.ls.length c3], .agg #[.int .i64 n, .int .i64 d]] w fun e w' => e = .returned (.bool v) ∧ Below w.heap.size w w' := by
  have bl := hl.lo
  have bh := hl.hi
  obtain ⟨t1, h1⟩ : ∃ t, ratioOk n d = t := ⟨_, rfl⟩
  obtain ⟨k1, e1⟩ : ∃ t, ratioCmp r.lo 1 n d = t := ⟨_, rfl⟩
  obtain ⟨k2, e2⟩ : ∃ t, ratioCmp n d r.hi 1 = t := ⟨_, rfl⟩
  have hv := h.out
  unfold isInB at hv
  rw [h1, e1, e2] at hv
  have H1 := Lib.hid h1
  have E1 := Lib.hid e1
  have E2 := Lib.hid e2
  obtain ⟨u1, d1⟩ : ∃ t, decide (k1 ≤ 0) = t := ⟨_, rfl⟩
  obtain ⟨u2, d2⟩ : ∃ t, decide (k2 ≤ 0) = t := ⟨_, rfl⟩
  rw [d1, d2] at hv
  have hc : (v = false ∧ (t1 = false ∨ (t1 = true ∧ u1 = false) ∨ (t1 = true ∧ u1 = true ∧ u2 = false))) ∨ (v = true ∧ t1 = true ∧ u1 = true ∧ u2 = true) := by
    cases t1 <;> cases u1 <;> cases u2 <;> simp at hv ⊢ <;> (first | exact hv | exact hv.symm)
  clear hv h1 e1 e2 h hl
  rcases hc with ⟨rfl, rfl | ⟨rfl, rfl⟩ | ⟨rfl, rfl, rfl⟩⟩ | ⟨rfl, rfl, rfl, rfl⟩
  all_goals
    go_enter Tryz.func79, Tryz.ntmps79
    go_wp2
    ((first | (with_reducible refine wp_region_calm2 (by kernel_rfl) (by kernel_rfl) ?_) | refine wp_region_calm (by kernel_rfl) (by kernel_rfl) ?_); (repeat (go_big_quiet_step (first | first | (go_at_call 64; exact calm_below (impl_RatioOk_eq (by exact H1.out) (by omega) (by omega))) | (go_at_call 76; exact calm_below (whole_v _ _)) | (go_at_call 35; exact calm_below (impl_RatioCmp_v (by first | exact E1 | exact E2) (by omega) (by omega) (by omega) (by omega)))))); refine wpQuiet_nil ?_; rintro _ ⟨y, rfl⟩)
    go_wp2
    go_ret
    exact ⟨rfl, (by repeat (first | exact bR | refine bO ?_ | refine bA ?_ | refine bS ?_ | refine bD ?_ | refine bN ?_))⟩
set_option maxRecDepth 100000 in
set_option maxHeartbeats 4000000 in
theorem impl_IsInput_eq {r : RoomV} {n d : Int} {v : Bool} {A1 A2 A3 : Option Addr} {c1 c2 c3 : Nat} {w : World} (M : RM w r A1 A2 c2 A3 c3) (hs : r.Short) (hl : r.InL) (hn : -9223372036854775808 ≤ n ∧ n ≤ 9223372036854775807) (hd : -9223372036854775808 ≤ d ∧ d ≤ 9223372036854775807) (h : Hid (isInputR r n d = v)) :
    Calls Tryz.prog 39 #[.agg #[.slice A1 r.m.length c1, .int .i64 r.q, .int .i64 r.bx, .int .i64 r.by_, .int .i64 r.lo, .int .i64 r.hi, .slice A2 r.ns.length c2, .slice A3 r.ls.length c3], .agg #[.int .i64 n, .int .i64 d]] w fun e w' => e = .returned (.bool v) ∧ Below w.heap.size w w' := by
  have hv := h.out
  rw [← isInput_same] at hv
  obtain ⟨t1, h1⟩ : ∃ t, isInB r.lo r.hi n d = t := ⟨_, rfl⟩
  obtain ⟨t2, h2⟩ : ∃ t, roomOk r = t := ⟨_, rfl⟩
  rw [h1, h2] at hv
  have H1 := Lib.hid h1
  have H2 := Lib.hid h2
  clear h1 h2 h
  have hc : (v = false ∧ (t1 = false ∨ (t1 = true ∧ t2 = false))) ∨ (v = true ∧ t1 = true ∧ t2 = true) := by
    cases t1 <;> cases t2 <;> simp at hv ⊢ <;> (first | exact hv | exact hv.symm)
  clear hv
  rcases hc with ⟨rfl, rfl | ⟨rfl, rfl⟩⟩ | ⟨rfl, rfl, rfl⟩
  all_goals
    go_enter Tryz.func39, Tryz.ntmps39
    go_wp2_with (first | (go_at_call 79; (first | (with_reducible refine (calls_ov2 (isInput_eq hl hn hd H1)).mono ?_) | refine (calls_ov (isInput_eq hl hn hd H1)).mono ?_); rintro e w' ⟨rfl, x, rfl⟩) | (go_at_call 13; (first | (with_reducible refine (calls_ov2 (impl_RoomOk_eq (M.below (by repeat (first | exact bR | refine bO ?_ | refine bA ?_ | refine bS ?_ | refine bD ?_ | refine bN ?_))) hs H2)).mono ?_) | refine (calls_ov (impl_RoomOk_eq (M.below (by repeat (first | exact bR | refine bO ?_ | refine bA ?_ | refine bS ?_ | refine bD ?_ | refine bN ?_))) hs H2)).mono ?_); rintro e w' ⟨rfl, x, rfl⟩))
    go_ret
    exact ⟨rfl, (by repeat (first | exact bR | refine bO ?_ | refine bA ?_ | refine bS ?_ | refine bD ?_ | refine bN ?_))⟩
def slopeI (r : RoomV) (g : H3) : Int := g.a * r.bx + g.b * r.by_
def admitHalfR (r : RoomV) (g : H3) : (Int × Int) × Int := if roomOk r = true ∧ halfOk g = true then ((slopeI r g, 1), sgn (slopeI r g)) else ((0, 0), 0)
structure SlopeBd (r : RoomV) (g : H3) : Prop where
  p1 : -5000000 ≤ g.a * r.bx ∧ g.a * r.bx ≤ 5000000
  p2 : -5000000 ≤ g.b * r.by_ ∧ g.b * r.by_ ≤ 5000000
theorem slope_bd {r : RoomV} {g : H3} (P : RoomP r) (k : HOk g) : SlopeBd r g := ⟨mul_bd (A := 50000) (B := 100) k.ba P.bx, mul_bd (A := 50000) (B := 100) k.bb P.by_⟩
theorem slope_eq {r : RoomV} {g : H3} {A1 A2 A3 : Option Addr} {c1 c2 c3 : Nat} {n : Int} {w : World} (B : SlopeBd r g) (h : Hid (slopeI r g = n)) :
    Calls Tryz.prog 103 #[.agg #[.slice A1 r.m.length c1, .int .i64 r.q, .int .i64 r.bx, .int .i64 r.by_, .int .i64 r.lo, .int .i64 r.hi, .slice A2 r.ns.length c2, .slice A3 r.ls.length c3], .agg #[.int .i64 g.a, .int .i64 g.b, .int .i64 g.c]] w fun e w' => e = .returned (.int .i64 n) ∧ Below w.heap.size w w' := by
  have h' := h.out
  clear h
  unfold slopeI at h'
  subst h'
  obtain ⟨p1, p2⟩ := B
  go_enter Tryz.func103, Tryz.ntmps103
  go_wp2
  go_ret
  exact ⟨rfl, (by repeat (first | exact bR | refine bO ?_ | refine bA ?_ | refine bS ?_ | refine bD ?_ | refine bN ?_))⟩
end Go.Proofs.YtabmfaamadbefaaGreat