/- Contracts of isMap, l07Matrix, mapped and MapSpot. Condition: the arguments are ints. -/
import Derived.Test.YtncolpeeilgndaaMi
import Derived.Test.YtncolpeeilgndaaSp
set_option linter.unusedSimpArgs false
set_option linter.unusedVariables false
set_option linter.unusedSectionVars false
namespace Go.Proofs.Ytncolpeeilgndaa
open Go.RowKit

def smallI (n : Int) : Bool := inR n (-20) 20
def mapOk (m : List Int) (q : Int) : Bool := decide (m.length = 4) && inR q 1 20 && m.all smallI
theorem all_take_succ {α : Type} (p : α → Bool) (l : List α) (k : Nat) (hk : k < l.length) : (l.take (k + 1)).all p = ((l.take k).all p && p l[k]) := by
  rw [List.take_succ_eq_append_getElem hk, List.all_append]; simp
theorem isMap_eq {m : List Int} {q : Int} {A : Option Addr} {c : Nat} {w : World} {v : Bool} (R : RI w A m) (hl : m.length ≤ 1000000000) (h : Hid (mapOk m q = v)) :
    Calls Try.prog 52 #[.slice A m.length c, .int .i64 q] w fun e w' => e = .returned (.bool v) ∧ Below w.heap.size w w' := by
  have h' := h.out
  clear h
  unfold mapOk at h'
  by_cases h4 : m.length = 4
  · have hz : ((m.length : Int) != 4) = false := by simp; omega
    rw [decide_eq_true h4, Bool.true_and] at h'
    cases hq : inR q 1 20 with
    | false =>
      rw [hq, Bool.false_and] at h'
      subst h'
      clear h4
      go_enter Try.func52, Try.ntmps52
      go_wp2_with ((go_at_call 36; refine (inRange_eq hq).mono ?_; rintro e w' ⟨rfl, rfl⟩))
      go_ret
      exact ⟨rfl, (by repeat (first | exact Below.refl _ _ | refine below_ov _ _ ?_ (by first | omega | (simp [ov_size] <;> omega)) | refine Below.alloc ?_ (by first | omega | (simp [ov_size] <;> omega)) _ | refine Below.setCell ?_ (by first | omega | (simp [ov_size] <;> omega)) _ | refine Below.drew ?_ | refine below_drewN ?_ _))⟩
    | true =>
      rw [hq, Bool.true_and] at h'
      have HV := Lib.hid h'
      clear h' h4
      go_enter Try.func52, Try.ntmps52
      go_wp2_with ((go_at_call 36; refine (inRange_eq hq).mono ?_; rintro e w' ⟨rfl, rfl⟩))
      go_loopw [17] (fun i wr => ∃ k : Nat, k ≤ m.length ∧ i = .int .i64 k ∧ Hid ((m.take k).all smallI = true) ∧ Below w.heap.size w wr) (fun i _ => m.length - (intOf i).toNat)
      case atStart => exact ⟨0, Nat.zero_le _, rfl, Lib.hid rfl, Below.refl _ _⟩
      case round =>
        obtain ⟨k, hk, rfl, HA, hb⟩ := hrel
        have hbs := hb.size
        by_cases hlt : k < m.length
        · obtain ⟨g, o, rfl, hg, z0⟩ := (R.below hb) k hlt
          have HT := Lib.hid (all_take_succ smallI m k hlt)
          clear R
          cases hs : inR m[k] (-20) 20 with
          | true =>
            have HB := Lib.hid (show smallI m[k] = true from hs)
            go_wp2_with ((go_at_call 36; refine (inRange_eq hs).mono ?_; rintro e w' ⟨rfl, rfl⟩))
            go_roundw
            case rel => exact ⟨k + 1, by omega, by go_num, Lib.hid (by rw [HT.out, HA.out, HB.out]; rfl), (by repeat (first | exact hb | refine below_ov _ _ ?_ (by first | omega | (simp [ov_size] <;> omega)) | refine Below.alloc ?_ (by first | omega | (simp [ov_size] <;> omega)) _ | refine Below.setCell ?_ (by first | omega | (simp [ov_size] <;> omega)) _ | refine Below.drew ?_ | refine below_drewN ?_ _))⟩
            case measure => simp [intOf] <;> omega
          | false =>
            obtain rfl : v = false := by
              rw [← HV.out, List.all_eq_false]
              exact ⟨m[k], List.getElem_mem hlt, by show ¬ smallI m[k] = true; unfold smallI; rw [hs]; simp⟩
            go_wp2_with ((go_at_call 36; refine (inRange_eq hs).mono ?_; rintro e w' ⟨rfl, rfl⟩))
            go_ret
            exact ⟨rfl, (by repeat (first | exact hb | refine below_ov _ _ ?_ (by first | omega | (simp [ov_size] <;> omega)) | refine Below.alloc ?_ (by first | omega | (simp [ov_size] <;> omega)) _ | refine Below.setCell ?_ (by first | omega | (simp [ov_size] <;> omega)) _ | refine Below.drew ?_ | refine below_drewN ?_ _))⟩
        · obtain rfl : k = m.length := by omega
          obtain rfl : v = true := by rw [← HV.out, ← HA.out, List.take_length]
          go_wp2
          go_ret
          exact ⟨rfl, hb⟩
  · have hz : ((m.length : Int) != 4) = true := by simp; omega
    have hz' : ¬ ((m.length : Int) = 4) := by omega
    rw [decide_eq_false h4, Bool.false_and, Bool.false_and] at h'
    subst h'
    clear h4
    go_enter Try.func52, Try.ntmps52
    go_wp2
    go_ret
    exact ⟨rfl, (by repeat (first | exact Below.refl _ _ | refine below_ov _ _ ?_ (by first | omega | (simp [ov_size] <;> omega)) | refine Below.alloc ?_ (by first | omega | (simp [ov_size] <;> omega)) _ | refine Below.setCell ?_ (by first | omega | (simp [ov_size] <;> omega)) _ | refine Below.drew ?_ | refine below_drewN ?_ _))⟩
theorem l07Matrix_eq {m : List Int} {q : Int} {A : Option Addr} {c : Nat} {w : World} {v : Bool} (R : RI w A m) (hl : m.length ≤ 1000000000) (h : Hid (mapOk m q = v)) :
    Calls Try.prog 49 #[.slice A m.length c, .int .i64 q] w fun e w' => e = .returned (.bool v) ∧ Below w.heap.size w w' := by
  have h' := h.out
  clear h
  unfold mapOk at h'
  by_cases h4 : m.length = 4
  · have hz : ((m.length : Int) != 4) = false := by simp; omega
    rw [decide_eq_true h4, Bool.true_and] at h'
    cases hq : inR q 1 20 with
    | false =>
      rw [hq, Bool.false_and] at h'
      subst h'
      clear h4
      go_enter Try.func49, Try.ntmps49
      go_wp2_with ((go_at_call 34; refine (l01In_eq hq).mono ?_; rintro e w' ⟨rfl, rfl⟩))
      go_ret
      exact ⟨rfl, (by repeat (first | exact Below.refl _ _ | refine below_ov _ _ ?_ (by first | omega | (simp [ov_size] <;> omega)) | refine Below.alloc ?_ (by first | omega | (simp [ov_size] <;> omega)) _ | refine Below.setCell ?_ (by first | omega | (simp [ov_size] <;> omega)) _ | refine Below.drew ?_ | refine below_drewN ?_ _))⟩
    | true =>
      rw [hq, Bool.true_and] at h'
      have HV := Lib.hid h'
      clear h' h4
      go_enter Try.func49, Try.ntmps49
      go_wp2_with ((go_at_call 34; refine (l01In_eq hq).mono ?_; rintro e w' ⟨rfl, rfl⟩))
      go_loopw [17] (fun i wr => ∃ k : Nat, k ≤ m.length ∧ i = .int .i64 k ∧ Hid ((m.take k).all smallI = true) ∧ Below w.heap.size w wr) (fun i _ => m.length - (intOf i).toNat)
      case atStart => exact ⟨0, Nat.zero_le _, rfl, Lib.hid rfl, Below.refl _ _⟩
      case round =>
        obtain ⟨k, hk, rfl, HA, hb⟩ := hrel
        have hbs := hb.size
        by_cases hlt : k < m.length
        · obtain ⟨g, o, rfl, hg, z0⟩ := (R.below hb) k hlt
          have HT := Lib.hid (all_take_succ smallI m k hlt)
          clear R
          cases hs : inR m[k] (-20) 20 with
          | true =>
            have HB := Lib.hid (show smallI m[k] = true from hs)
            go_wp2_with ((go_at_call 34; refine (l01In_eq hs).mono ?_; rintro e w' ⟨rfl, rfl⟩))
            go_roundw
            case rel => exact ⟨k + 1, by omega, by go_num, Lib.hid (by rw [HT.out, HA.out, HB.out]; rfl), (by repeat (first | exact hb | refine below_ov _ _ ?_ (by first | omega | (simp [ov_size] <;> omega)) | refine Below.alloc ?_ (by first | omega | (simp [ov_size] <;> omega)) _ | refine Below.setCell ?_ (by first | omega | (simp [ov_size] <;> omega)) _ | refine Below.drew ?_ | refine below_drewN ?_ _))⟩
            case measure => simp [intOf] <;> omega
          | false =>
            obtain rfl : v = false := by
              rw [← HV.out, List.all_eq_false]
              exact ⟨m[k], List.getElem_mem hlt, by show ¬ smallI m[k] = true; unfold smallI; rw [hs]; simp⟩
            go_wp2_with ((go_at_call 34; refine (l01In_eq hs).mono ?_; rintro e w' ⟨rfl, rfl⟩))
            go_ret
            exact ⟨rfl, (by repeat (first | exact hb | refine below_ov _ _ ?_ (by first | omega | (simp [ov_size] <;> omega)) | refine Below.alloc ?_ (by first | omega | (simp [ov_size] <;> omega)) _ | refine Below.setCell ?_ (by first | omega | (simp [ov_size] <;> omega)) _ | refine Below.drew ?_ | refine below_drewN ?_ _))⟩
        · obtain rfl : k = m.length := by omega
          obtain rfl : v = true := by rw [← HV.out, ← HA.out, List.take_length]
          go_wp2
          go_ret
          exact ⟨rfl, hb⟩
  · have hz : ((m.length : Int) != 4) = true := by simp; omega
    have hz' : ¬ ((m.length : Int) = 4) := by omega
    rw [decide_eq_false h4, Bool.false_and, Bool.false_and] at h'
    subst h'
    clear h4
    go_enter Try.func49, Try.ntmps49
    go_wp2
    go_ret
    exact ⟨rfl, (by repeat (first | exact Below.refl _ _ | refine below_ov _ _ ?_ (by first | omega | (simp [ov_size] <;> omega)) | refine Below.alloc ?_ (by first | omega | (simp [ov_size] <;> omega)) _ | refine Below.setCell ?_ (by first | omega | (simp [ov_size] <;> omega)) _ | refine Below.drew ?_ | refine below_drewN ?_ _))⟩

theorem RI.four {w : World} {A : Option Addr} {a b e f : Int} (R : RI w A [a, b, e, f]) : ∃ g o, A = some ⟨g, o, none⟩ ∧ g < w.heap.size ∧ w.cell? ⟨g, o, none⟩ = some (.int .i64 a) ∧ w.cell? ⟨g, o + 1, none⟩ = some (.int .i64 b) ∧ w.cell? ⟨g, o + 2, none⟩ = some (.int .i64 e) ∧ w.cell? ⟨g, o + 3, none⟩ = some (.int .i64 f) := by
  obtain ⟨g, o, rfl, h1, c0⟩ := R 0 (by simp)
  obtain ⟨g1, o1, e1, _, c1⟩ := R 1 (by simp)
  obtain ⟨g2, o2, e2, _, c2⟩ := R 2 (by simp)
  obtain ⟨g3, o3, e3, _, c3⟩ := R 3 (by simp)
  injection e1 with e1; injection e1 with e1 f1; subst e1 f1
  injection e2 with e2; injection e2 with e2 f2; subst e2 f2
  injection e3 with e3; injection e3 with e3 f3; subst e3 f3
  exact ⟨g, o, rfl, h1, c0, c1, c2, c3⟩
theorem heap_new_at {w : World} {o : Obj} {n : Nat} {r : Option Obj} (hn : n = w.heap.size) (hr : r = some o) : (w.alloc o).heap[n]? = r := by subst hn hr; exact heap_alloc_new _ _
theorem isStB_pur {w0 w : World} {Rs : List RD} {vs : Nat → Value} {T : TypeId} {m j b : Nat} {nj nm : List Nat} {wm : Bool} {u : Value} (h : holds w0 Rs vs m w) (hr : Rs[m]? = some (.rel nm [j] wm (IsStB b T))) (hj : Rs[j]? = some (.pur nj u)) :
    w.heap[b]? = some (.cells u.cells T (0, 0)) := by
  unfold holds at h
  rw [hr] at h
  obtain ⟨u', e, h1⟩ := h
  simp only [List.map_cons, List.map_nil, vv_pur hj, List.cons.injEq, and_true] at e
  subst e
  exact h1

structure MapBd (a b e f q x y d : Int) : Prop where
  p1 : -100000000000000 ≤ a * x ∧ a * x ≤ 100000000000000
  p2 : -100000000000000 ≤ b * y ∧ b * y ≤ 100000000000000
  p3 : -100000000000000 ≤ e * x ∧ e * x ≤ 100000000000000
  p4 : -100000000000000 ≤ f * y ∧ f * y ≤ 100000000000000
  p5 : -100000000000 ≤ q * d ∧ q * d ≤ 100000000000

set_option maxHeartbeats 2000000 in
theorem mapped_eq {a b e f q x yy d : Int} {A : Option Addr} {c : Nat} {w : World} (R : RI w A [a, b, e, f]) (M : MapBd a b e f q x yy d) :
    Calls Try.prog 54 #[.agg #[.int .i64 x, .int .i64 yy, .int .i64 d], .slice A 4 c, .int .i64 q] w fun en w' => en = .returned (.tuple #[.int .i64 (a * x + b * yy), .int .i64 (e * x + f * yy), .int .i64 (q * d)]) ∧ Below w.heap.size w w' := by
  obtain ⟨g, o, rfl, hg, c0, c1, c2, c3⟩ := R.four
  obtain ⟨p1, p2, p3, p4, p5⟩ := M
  clear R
  go_enter Try.func54, Try.ntmps54
  go_wp2
  ((first | (with_reducible refine wp_region_calm2 (by kernel_rfl) (by kernel_rfl) ?_) | refine wp_region_calm (by kernel_rfl) (by kernel_rfl) ?_); (repeat (go_big_quiet_step (first | fail))); refine wpQuiet_nil ?_; rintro _ ⟨y, rfl⟩)
  go_wp2
  refine bodyPost_ret (v := .tuple #[.int .i64 (a * x + b * yy), .int .i64 (e * x + f * yy), .int .i64 (q * d)]) (by simp [results, Try.results54, go_sem]) rfl ⟨rfl, (by repeat (first | exact Below.refl _ _ | refine below_ov _ _ ?_ (by first | omega | (simp [ov_size] <;> omega)) | refine Below.alloc ?_ (by first | omega | (simp [ov_size] <;> omega)) _ | refine Below.setCell ?_ (by first | omega | (simp [ov_size] <;> omega)) _ | refine Below.drew ?_ | refine below_drewN ?_ _))⟩

/-- What MapSpot returns. -/
def mapS (x y d : Int) (m : List Int) (q : Int) : P3 × Bool := if spotOk x y d = true ∧ mapOk m q = true then spotOf (m.getD 0 0 * x + m.getD 1 0 * y) (m.getD 2 0 * x + m.getD 3 0 * y) (q * d) else ((0, 0, 0), false)
theorem mapS_good {x y d q : Int} {m : List Int} (hs : spotOk x y d = true) (hm : mapOk m q = true) : ∃ a b e f, m = [a, b, e, f] ∧ MapBd a b e f q x y d := by
  unfold mapOk at hm
  simp only [Bool.and_eq_true, decide_eq_true_eq] at hm
  obtain ⟨⟨h4, hq⟩, hall⟩ := hm
  match m, h4 with
  | [a, b, e, f], _ =>
    simp only [List.all_cons, List.all_nil, Bool.and_true, Bool.and_eq_true, smallI, inR_iff] at hall
    obtain ⟨ha, hb, he, hf⟩ := hall
    have hq := inR_iff.1 hq
    unfold spotOk at hs
    simp only [Bool.and_eq_true, inR_iff] at hs
    obtain ⟨⟨⟨hd, hx⟩, hy⟩, _⟩ := hs
    have bx : -5000000000000 ≤ x ∧ x ≤ 5000000000000 := by omega
    have bY : -5000000000000 ≤ y ∧ y ≤ 5000000000000 := by omega
    exact ⟨a, b, e, f, rfl, mul_bd ha bx, mul_bd hb bY, mul_bd he bx, mul_bd hf bY, by have := mul_bd (x := q) (y := d) (A := 20) (B := 5000000000) (by omega) (by omega); omega⟩

set_option maxRecDepth 100000 in
set_option maxHeartbeats 4000000 in
theorem impl_MapSpot_eq {x y d q : Int} {m : List Int} {r s t : Int} {ok : Bool} {A : Option Addr} {c : Nat} {w : World} (hr : Hid (mapS x y d m q = ((r, s, t), ok))) (R : RI w A m) (hl : m.length ≤ 1048576)
    (hx : -9223372036854775808 ≤ x ∧ x ≤ 9223372036854775807) (hy : -9223372036854775808 ≤ y ∧ y ≤ 9223372036854775807) (hd : -9223372036854775808 ≤ d ∧ d ≤ 9223372036854775807) :
    Calls Try.prog 23 #[.agg #[.int .i64 x, .int .i64 y, .int .i64 d], .slice A m.length c, .int .i64 q] w fun en w' => en = .returned (.tuple #[.agg #[.int .i64 r, .int .i64 s, .int .i64 t], .bool ok]) ∧ Below w.heap.size w w' := by
  have h' := hr.out
  clear hr
  unfold mapS at h'
  cases hs : spotOk x y d with
  | false =>
    rw [if_neg (by simp [hs])] at h'
    simp at h'
    obtain ⟨⟨rfl, rfl, rfl⟩, rfl⟩ := h'
    go_enter Try.func23, Try.ntmps23
    go_wp2_with ((go_at_call 51; (first | (with_reducible refine (calls_ov2 (impl_SpotOk_eq hs hx hy hd)).mono ?_) | refine (calls_ov (impl_SpotOk_eq hs hx hy hd)).mono ?_); rintro e w' ⟨rfl, x, rfl⟩))
    refine bodyPost_ret (v := .tuple #[.agg #[.int .i64 0, .int .i64 0, .int .i64 0], .bool false]) (by simp [results, Try.results23, go_sem]) rfl ⟨rfl, ?_⟩
    (repeat (first | exact Below.refl _ _ | refine below_ov _ _ ?_ (by first | omega | (simp [ov_size] <;> omega)) | refine Below.alloc ?_ (by first | omega | (simp [ov_size] <;> omega)) _ | refine Below.setCell ?_ (by first | omega | (simp [ov_size] <;> omega)) _ | refine Below.drew ?_ | refine below_drewN ?_ _))
  | true =>
    cases hm : mapOk m q with
    | false =>
      rw [if_neg (by simp [hm])] at h'
      simp at h'
      obtain ⟨⟨rfl, rfl, rfl⟩, rfl⟩ := h'
      have HM := Lib.hid hm
      clear hm
      go_enter Try.func23, Try.ntmps23
      go_wp2_with (first | (go_at_call 51; (first | (with_reducible refine (calls_ov2 (impl_SpotOk_eq hs hx hy hd)).mono ?_) | refine (calls_ov (impl_SpotOk_eq hs hx hy hd)).mono ?_); rintro e w' ⟨rfl, x, rfl⟩) | (go_at_call 52; (first | (with_reducible refine (calls_ov2 (isMap_eq (by exact R.below (by repeat (first | exact Below.refl _ _ | refine below_ov _ _ ?_ (by first | omega | (simp [ov_size] <;> omega)) | refine Below.alloc ?_ (by first | omega | (simp [ov_size] <;> omega)) _ | refine Below.setCell ?_ (by first | omega | (simp [ov_size] <;> omega)) _ | refine Below.drew ?_ | refine below_drewN ?_ _))) (by omega) HM)).mono ?_) | refine (calls_ov (isMap_eq (by exact R.below (by repeat (first | exact Below.refl _ _ | refine below_ov _ _ ?_ (by first | omega | (simp [ov_size] <;> omega)) | refine Below.alloc ?_ (by first | omega | (simp [ov_size] <;> omega)) _ | refine Below.setCell ?_ (by first | omega | (simp [ov_size] <;> omega)) _ | refine Below.drew ?_ | refine below_drewN ?_ _))) (by omega) HM)).mono ?_); rintro e w' ⟨rfl, x, rfl⟩))
      refine bodyPost_ret (v := .tuple #[.agg #[.int .i64 0, .int .i64 0, .int .i64 0], .bool false]) (by simp [results, Try.results23, go_sem]) rfl ⟨rfl, ?_⟩
      (repeat (first | exact Below.refl _ _ | refine below_ov _ _ ?_ (by first | omega | (simp [ov_size] <;> omega)) | refine Below.alloc ?_ (by first | omega | (simp [ov_size] <;> omega)) _ | refine Below.setCell ?_ (by first | omega | (simp [ov_size] <;> omega)) _ | refine Below.drew ?_ | refine below_drewN ?_ _))
    | true =>
      rw [if_pos ⟨hs, hm⟩] at h'
      obtain ⟨a, b, e, f, rfl, M⟩ := mapS_good hs hm
      have HM := Lib.hid hm
      have HR := Lib.hid (show spotOf (a * x + b * y) (e * x + f * y) (q * d) = ((r, s, t), ok) from h')
      clear hm h'
      have p1 := M.p1
      have p2 := M.p2
      have p3 := M.p3
      have p4 := M.p4
      have p5 := M.p5
      go_enter Try.func23, Try.ntmps23
      go_wp2_with (first | (go_at_call 51; (first | (with_reducible refine (calls_ov2 (impl_SpotOk_eq hs hx hy hd)).mono ?_) | refine (calls_ov (impl_SpotOk_eq hs hx hy hd)).mono ?_); rintro e w' ⟨rfl, x, rfl⟩) | (go_at_call 52; (first | (with_reducible refine (calls_ov2 (isMap_eq (m := [a, b, e, f]) (by exact R.below (by repeat (first | exact Below.refl _ _ | refine below_ov _ _ ?_ (by first | omega | (simp [ov_size] <;> omega)) | refine Below.alloc ?_ (by first | omega | (simp [ov_size] <;> omega)) _ | refine Below.setCell ?_ (by first | omega | (simp [ov_size] <;> omega)) _ | refine Below.drew ?_ | refine below_drewN ?_ _))) (by simp) HM)).mono ?_) | refine (calls_ov (isMap_eq (m := [a, b, e, f]) (by exact R.below (by repeat (first | exact Below.refl _ _ | refine below_ov _ _ ?_ (by first | omega | (simp [ov_size] <;> omega)) | refine Below.alloc ?_ (by first | omega | (simp [ov_size] <;> omega)) _ | refine Below.setCell ?_ (by first | omega | (simp [ov_size] <;> omega)) _ | refine Below.drew ?_ | refine below_drewN ?_ _))) (by simp) HM)).mono ?_); rintro e w' ⟨rfl, x, rfl⟩) | (go_at_call 54; (first | (with_reducible refine (calls_ov2 (mapped_eq (by exact R.below (by repeat (first | exact Below.refl _ _ | refine below_ov _ _ ?_ (by first | omega | (simp [ov_size] <;> omega)) | refine Below.alloc ?_ (by first | omega | (simp [ov_size] <;> omega)) _ | refine Below.setCell ?_ (by first | omega | (simp [ov_size] <;> omega)) _ | refine Below.drew ?_ | refine below_drewN ?_ _))) M)).mono ?_) | refine (calls_ov (mapped_eq (by exact R.below (by repeat (first | exact Below.refl _ _ | refine below_ov _ _ ?_ (by first | omega | (simp [ov_size] <;> omega)) | refine Below.alloc ?_ (by first | omega | (simp [ov_size] <;> omega)) _ | refine Below.setCell ?_ (by first | omega | (simp [ov_size] <;> omega)) _ | refine Below.drew ?_ | refine below_drewN ?_ _))) M)).mono ?_); rintro e w' ⟨rfl, x, rfl⟩) | (go_at_call 53; (first | (with_reducible refine (calls_ov2 (impl_SpotOf_eq HR (by omega) (by omega) (by omega))).mono ?_) | refine (calls_ov (impl_SpotOf_eq HR (by omega) (by omega) (by omega))).mono ?_); rintro e w' ⟨rfl, x, rfl⟩))
      refine bodyPost_ret (v := .tuple #[.agg #[.int .i64 r, .int .i64 s, .int .i64 t], .bool ok]) (by simp [results, Try.results23, go_sem]) rfl ⟨rfl, ?_⟩
      (repeat (first | exact Below.refl _ _ | refine below_ov _ _ ?_ (by first | omega | (simp [ov_size] <;> omega)) | refine Below.alloc ?_ (by first | omega | (simp [ov_size] <;> omega)) _ | refine Below.setCell ?_ (by first | omega | (simp [ov_size] <;> omega)) _ | refine Below.drew ?_ | refine below_drewN ?_ _))

set_option maxRecDepth 100000 in
set_option maxHeartbeats 4000000 in
theorem spec_MapSpot_eq {xx y d q : Int} {m : List Int} {r s t : Int} {ok : Bool} {A : Option Addr} {c : Nat} {w : World} (hr : Hid (mapS xx y d m q = ((r, s, t), ok))) (R : RI w A m) (hl : m.length ≤ 1048576)
    (hx : -9223372036854775808 ≤ xx ∧ xx ≤ 9223372036854775807) (hy : -9223372036854775808 ≤ y ∧ y ≤ 9223372036854775807) (hd : -9223372036854775808 ≤ d ∧ d ≤ 9223372036854775807) :
    Calls Try.prog 20 #[.agg #[.int .i64 xx, .int .i64 y, .int .i64 d], .slice A m.length c, .int .i64 q] w fun en w' => en = .returned (.tuple #[.agg #[.int .i64 r, .int .i64 s, .int .i64 t], .bool ok]) ∧ Below w.heap.size w w' := by
  have h' := hr.out
  clear hr
  unfold mapS at h'
  cases hs : spotOk xx y d with
  | false =>
    rw [if_neg (by simp [hs])] at h'
    simp at h'
    obtain ⟨⟨rfl, rfl, rfl⟩, rfl⟩ := h'
    go_enter Try.func20, Try.ntmps20
    go_wp2_with ((go_at_call 48; (first | (with_reducible refine (calls_ov2 (spec_SpotOk_eq hs hx hy hd)).mono ?_) | refine (calls_ov (spec_SpotOk_eq hs hx hy hd)).mono ?_); rintro e w' ⟨rfl, x, rfl⟩))
    refine bodyPost_ret (v := .tuple #[.agg #[.int .i64 0, .int .i64 0, .int .i64 0], .bool false]) (by simp [results, Try.results20, go_sem]) rfl ⟨rfl, ?_⟩
    (repeat (first | exact Below.refl _ _ | refine below_ov _ _ ?_ (by first | omega | (simp [ov_size] <;> omega)) | refine Below.alloc ?_ (by first | omega | (simp [ov_size] <;> omega)) _ | refine Below.setCell ?_ (by first | omega | (simp [ov_size] <;> omega)) _ | refine Below.drew ?_ | refine below_drewN ?_ _))
  | true =>
    cases hm : mapOk m q with
    | false =>
      rw [if_neg (by simp [hm])] at h'
      simp at h'
      obtain ⟨⟨rfl, rfl, rfl⟩, rfl⟩ := h'
      have HM := Lib.hid hm
      clear hm
      go_enter Try.func20, Try.ntmps20
      go_wp2_with (first | (go_at_call 48; (first | (with_reducible refine (calls_ov2 (spec_SpotOk_eq hs hx hy hd)).mono ?_) | refine (calls_ov (spec_SpotOk_eq hs hx hy hd)).mono ?_); rintro e w' ⟨rfl, x, rfl⟩) | (go_at_call 49; (first | (with_reducible refine (calls_ov2 (l07Matrix_eq (by exact R.below (by repeat (first | exact Below.refl _ _ | refine below_ov _ _ ?_ (by first | omega | (simp [ov_size] <;> omega)) | refine Below.alloc ?_ (by first | omega | (simp [ov_size] <;> omega)) _ | refine Below.setCell ?_ (by first | omega | (simp [ov_size] <;> omega)) _ | refine Below.drew ?_ | refine below_drewN ?_ _))) (by omega) HM)).mono ?_) | refine (calls_ov (l07Matrix_eq (by exact R.below (by repeat (first | exact Below.refl _ _ | refine below_ov _ _ ?_ (by first | omega | (simp [ov_size] <;> omega)) | refine Below.alloc ?_ (by first | omega | (simp [ov_size] <;> omega)) _ | refine Below.setCell ?_ (by first | omega | (simp [ov_size] <;> omega)) _ | refine Below.drew ?_ | refine below_drewN ?_ _))) (by omega) HM)).mono ?_); rintro e w' ⟨rfl, x, rfl⟩))
      refine bodyPost_ret (v := .tuple #[.agg #[.int .i64 0, .int .i64 0, .int .i64 0], .bool false]) (by simp [results, Try.results20, go_sem]) rfl ⟨rfl, ?_⟩
      (repeat (first | exact Below.refl _ _ | refine below_ov _ _ ?_ (by first | omega | (simp [ov_size] <;> omega)) | refine Below.alloc ?_ (by first | omega | (simp [ov_size] <;> omega)) _ | refine Below.setCell ?_ (by first | omega | (simp [ov_size] <;> omega)) _ | refine Below.drew ?_ | refine below_drewN ?_ _))
    | true =>
      rw [if_pos ⟨hs, hm⟩] at h'
      obtain ⟨a, b, e, f, rfl, M⟩ := mapS_good hs hm
      have HM := Lib.hid hm
      have HR := Lib.hid (show spotOf (a * xx + b * y) (e * xx + f * y) (q * d) = ((r, s, t), ok) from h')
      clear hm h'
      have p1 := M.p1
      have p2 := M.p2
      have p3 := M.p3
      have p4 := M.p4
      have p5 := M.p5
      go_enter Try.func20, Try.ntmps20
      go_wp2_with (first | (go_at_call 48; (first | (with_reducible refine (calls_ov2 (spec_SpotOk_eq hs hx hy hd)).mono ?_) | refine (calls_ov (spec_SpotOk_eq hs hx hy hd)).mono ?_); rintro e w' ⟨rfl, x, rfl⟩) | (go_at_call 49; (first | (with_reducible refine (calls_ov2 (l07Matrix_eq (m := [a, b, e, f]) (by exact R.below (by repeat (first | exact Below.refl _ _ | refine below_ov _ _ ?_ (by first | omega | (simp [ov_size] <;> omega)) | refine Below.alloc ?_ (by first | omega | (simp [ov_size] <;> omega)) _ | refine Below.setCell ?_ (by first | omega | (simp [ov_size] <;> omega)) _ | refine Below.drew ?_ | refine below_drewN ?_ _))) (by simp) HM)).mono ?_) | refine (calls_ov (l07Matrix_eq (m := [a, b, e, f]) (by exact R.below (by repeat (first | exact Below.refl _ _ | refine below_ov _ _ ?_ (by first | omega | (simp [ov_size] <;> omega)) | refine Below.alloc ?_ (by first | omega | (simp [ov_size] <;> omega)) _ | refine Below.setCell ?_ (by first | omega | (simp [ov_size] <;> omega)) _ | refine Below.drew ?_ | refine below_drewN ?_ _))) (by simp) HM)).mono ?_); rintro e w' ⟨rfl, x, rfl⟩))
      obtain ⟨g, o, rfl, hg, c0, c1, c2, c3⟩ := R.four
      clear R
      obtain ⟨w0, hw0⟩ : ∃ w0, w.alloc (.cells #[.int .i64 xx, .int .i64 y, .int .i64 d] 52) = w0 := ⟨_, rfl⟩
      have s0 : w0.heap.size = w.heap.size + 1 := by rw [← hw0]; simp
      have T0 : Below w.heap.size w w0 := by rw [← hw0]; exact (by repeat (first | exact Below.refl _ _ | refine below_ov _ _ ?_ (by first | omega | (simp [ov_size] <;> omega)) | refine Below.alloc ?_ (by first | omega | (simp [ov_size] <;> omega)) _ | refine Below.setCell ?_ (by first | omega | (simp [ov_size] <;> omega)) _ | refine Below.drew ?_ | refine below_drewN ?_ _))
      have X2 : w0.heap[w.heap.size]? = some (.cells #[.int .i64 xx, .int .i64 y, .int .i64 d] 52 (0, 0)) := by rw [← hw0]; exact heap_alloc_new _ _
      rw [hw0, ← s0]
      have s1 : w.heap.size ≤ w0.heap.size := T0.size
      replace c0 := (T0.cell (p := ⟨g, o, none⟩) hg).trans c0
      replace c1 := (T0.cell (p := ⟨g, o + 1, none⟩) hg).trans c1
      replace c2 := (T0.cell (p := ⟨g, o + 2, none⟩) hg).trans c2
      replace c3 := (T0.cell (p := ⟨g, o + 3, none⟩) hg).trans c3
      have hg0 : g < w0.heap.size := by omega
      clear hw0 s0 hg
      have y0 := cell_blk (j := 0) (v := .int .i64 xx) X2 rfl
      have y1 := cell_blk (j := 1) (v := .int .i64 y) X2 rfl
      have y2 := cell_blk (j := 2) (v := .int .i64 d) X2 rfl
      have l2 := (Array.getElem?_eq_some_iff.1 X2).1
      clear X2
      refine wp_region_relE (IsOld w0.heap.size 52 3) ([], []) (w := w0) (RD.pur [] ?s0 :: RD.pur [] ?s1 :: RD.pur [] ?s2 :: RD.pur [] ?s3 :: RD.pur [] ?s4 :: RD.pur [] ?s5 :: RD.pur [] ?s6 :: RD.pur [] ?s7 :: RD.pur [] ?s8 :: RD.pur [] ?s9 :: RD.pur [] ?s10 :: RD.pur [] ?s11 :: RD.pur [] ?s12 :: RD.pur [] ?s13 :: RD.pur [] ?s14 :: RD.pur [] ?s15 :: RD.pur [] ?s16 :: RD.pur [] ?s17 :: RD.pur [] ?s18 :: RD.pur [] ?s19 :: RD.pur [] ?s20 :: RD.pur [] ?s21 :: RD.pur [] ?s22 :: RD.pur [] ?s23 :: RD.pur [] ?s24 :: RD.pur [] ?s25 :: RD.pur [] ?s26 :: RD.pur [] ?s27 :: RD.pur [] ?s28 :: RD.pur [] ?s29 :: RD.pur [] ?s30 :: RD.pur [] ?s31 :: RD.pur [] ?s32 :: RD.rel [31] [31] true (IsStB w0.heap.size 52) :: RD.pur [] ?s34 :: []) _ rfl rfl (by kernel_rfl) (by kernel_rfl) (by kernel_rfl) (by kernel_rfl) ?hst isOld_ov (ov_of_below (by repeat (first | exact Below.refl _ _ | refine below_ov _ _ ?_ (by first | omega | (simp [ov_size] <;> omega)) | refine Below.alloc ?_ (by first | omega | (simp [ov_size] <;> omega)) _ | refine Below.setCell ?_ (by first | omega | (simp [ov_size] <;> omega)) _ | refine Below.drew ?_ | refine below_drewN ?_ _))) ⟨#[.int .i64 0, .int .i64 0, .int .i64 0], rfl, by first | exact ov_blk (heap_new_at rfl rfl) | exact ov_blk (ov_blk (heap_new_at rfl rfl))⟩ (fun vs => ?walk)
      case' walk =>
        (refine wpRelE_pur rfl rfl (fun x hh => by ((skip); (go_wp2); refine relEndE_pur rfl ?_ (by repeat (first | exact Below.refl _ _ | refine below_ov _ _ ?_ (by first | omega | (simp [ov_size] <;> omega)) | refine Below.alloc ?_ (by first | omega | (simp [ov_size] <;> omega)) _ | refine Below.setCell ?_ (by first | omega | (simp [ov_size] <;> omega)) _ | refine Below.drew ?_ | refine below_drewN ?_ _)); simp only [Act.put, List.setIfInBounds_toArray, List.set_cons_succ, List.set_cons_zero]; rfl)) ?_; simp only [Act.put, List.setIfInBounds_toArray, List.set_cons_succ, List.set_cons_zero])
        (refine wpRelE_pur rfl rfl (fun x hh => by ((skip); (go_wp2); refine relEndE_pur rfl ?_ (by repeat (first | exact Below.refl _ _ | refine below_ov _ _ ?_ (by first | omega | (simp [ov_size] <;> omega)) | refine Below.alloc ?_ (by first | omega | (simp [ov_size] <;> omega)) _ | refine Below.setCell ?_ (by first | omega | (simp [ov_size] <;> omega)) _ | refine Below.drew ?_ | refine below_drewN ?_ _)); simp only [Act.put, List.setIfInBounds_toArray, List.set_cons_succ, List.set_cons_zero]; rfl)) ?_; simp only [Act.put, List.setIfInBounds_toArray, List.set_cons_succ, List.set_cons_zero])
        (refine wpRelE_pur rfl rfl (fun x hh => by ((skip); (go_wp2); refine relEndE_pur rfl ?_ (by repeat (first | exact Below.refl _ _ | refine below_ov _ _ ?_ (by first | omega | (simp [ov_size] <;> omega)) | refine Below.alloc ?_ (by first | omega | (simp [ov_size] <;> omega)) _ | refine Below.setCell ?_ (by first | omega | (simp [ov_size] <;> omega)) _ | refine Below.drew ?_ | refine below_drewN ?_ _)); simp only [Act.put, List.setIfInBounds_toArray, List.set_cons_succ, List.set_cons_zero]; rfl)) ?_; simp only [Act.put, List.setIfInBounds_toArray, List.set_cons_succ, List.set_cons_zero])
        (refine wpRelE_pur rfl rfl (fun x hh => by ((skip); (go_wp2); refine relEndE_pur rfl ?_ (by repeat (first | exact Below.refl _ _ | refine below_ov _ _ ?_ (by first | omega | (simp [ov_size] <;> omega)) | refine Below.alloc ?_ (by first | omega | (simp [ov_size] <;> omega)) _ | refine Below.setCell ?_ (by first | omega | (simp [ov_size] <;> omega)) _ | refine Below.drew ?_ | refine below_drewN ?_ _)); simp only [Act.put, List.setIfInBounds_toArray, List.set_cons_succ, List.set_cons_zero]; rfl)) ?_; simp only [Act.put, List.setIfInBounds_toArray, List.set_cons_succ, List.set_cons_zero])
        (refine wpRelE_pur rfl rfl (fun x hh => by ((skip); (go_wp2); refine relEndE_pur rfl ?_ (by repeat (first | exact Below.refl _ _ | refine below_ov _ _ ?_ (by first | omega | (simp [ov_size] <;> omega)) | refine Below.alloc ?_ (by first | omega | (simp [ov_size] <;> omega)) _ | refine Below.setCell ?_ (by first | omega | (simp [ov_size] <;> omega)) _ | refine Below.drew ?_ | refine below_drewN ?_ _)); simp only [Act.put, List.setIfInBounds_toArray, List.set_cons_succ, List.set_cons_zero]; rfl)) ?_; simp only [Act.put, List.setIfInBounds_toArray, List.set_cons_succ, List.set_cons_zero])
        (refine wpRelE_pur rfl rfl (fun x hh => by ((skip); (go_wp2); refine relEndE_pur rfl ?_ (by repeat (first | exact Below.refl _ _ | refine below_ov _ _ ?_ (by first | omega | (simp [ov_size] <;> omega)) | refine Below.alloc ?_ (by first | omega | (simp [ov_size] <;> omega)) _ | refine Below.setCell ?_ (by first | omega | (simp [ov_size] <;> omega)) _ | refine Below.drew ?_ | refine below_drewN ?_ _)); simp only [Act.put, List.setIfInBounds_toArray, List.set_cons_succ, List.set_cons_zero]; rfl)) ?_; simp only [Act.put, List.setIfInBounds_toArray, List.set_cons_succ, List.set_cons_zero])
        (refine wpRelE_pur rfl rfl (fun x hh => by ((skip); (go_wp2); refine relEndE_pur rfl ?_ (by repeat (first | exact Below.refl _ _ | refine below_ov _ _ ?_ (by first | omega | (simp [ov_size] <;> omega)) | refine Below.alloc ?_ (by first | omega | (simp [ov_size] <;> omega)) _ | refine Below.setCell ?_ (by first | omega | (simp [ov_size] <;> omega)) _ | refine Below.drew ?_ | refine below_drewN ?_ _)); simp only [Act.put, List.setIfInBounds_toArray, List.set_cons_succ, List.set_cons_zero]; rfl)) ?_; simp only [Act.put, List.setIfInBounds_toArray, List.set_cons_succ, List.set_cons_zero])
        (refine wpRelE_pur rfl rfl (fun x hh => by ((skip); (go_wp2); refine relEndE_pur rfl ?_ (by repeat (first | exact Below.refl _ _ | refine below_ov _ _ ?_ (by first | omega | (simp [ov_size] <;> omega)) | refine Below.alloc ?_ (by first | omega | (simp [ov_size] <;> omega)) _ | refine Below.setCell ?_ (by first | omega | (simp [ov_size] <;> omega)) _ | refine Below.drew ?_ | refine below_drewN ?_ _)); simp only [Act.put, List.setIfInBounds_toArray, List.set_cons_succ, List.set_cons_zero]; rfl)) ?_; simp only [Act.put, List.setIfInBounds_toArray, List.set_cons_succ, List.set_cons_zero])
        (refine wpRelE_pur rfl rfl (fun x hh => by ((skip); (go_wp2); refine relEndE_pur rfl ?_ (by repeat (first | exact Below.refl _ _ | refine below_ov _ _ ?_ (by first | omega | (simp [ov_size] <;> omega)) | refine Below.alloc ?_ (by first | omega | (simp [ov_size] <;> omega)) _ | refine Below.setCell ?_ (by first | omega | (simp [ov_size] <;> omega)) _ | refine Below.drew ?_ | refine below_drewN ?_ _)); simp only [Act.put, List.setIfInBounds_toArray, List.set_cons_succ, List.set_cons_zero]; rfl)) ?_; simp only [Act.put, List.setIfInBounds_toArray, List.set_cons_succ, List.set_cons_zero])
        (refine wpRelE_pur rfl rfl (fun x hh => by ((skip); (go_wp2); refine relEndE_pur rfl ?_ (by repeat (first | exact Below.refl _ _ | refine below_ov _ _ ?_ (by first | omega | (simp [ov_size] <;> omega)) | refine Below.alloc ?_ (by first | omega | (simp [ov_size] <;> omega)) _ | refine Below.setCell ?_ (by first | omega | (simp [ov_size] <;> omega)) _ | refine Below.drew ?_ | refine below_drewN ?_ _)); simp only [Act.put, List.setIfInBounds_toArray, List.set_cons_succ, List.set_cons_zero]; rfl)) ?_; simp only [Act.put, List.setIfInBounds_toArray, List.set_cons_succ, List.set_cons_zero])
        (refine wpRelE_pur rfl rfl (fun x hh => by ((skip); (go_wp2); refine relEndE_pur rfl ?_ (by repeat (first | exact Below.refl _ _ | refine below_ov _ _ ?_ (by first | omega | (simp [ov_size] <;> omega)) | refine Below.alloc ?_ (by first | omega | (simp [ov_size] <;> omega)) _ | refine Below.setCell ?_ (by first | omega | (simp [ov_size] <;> omega)) _ | refine Below.drew ?_ | refine below_drewN ?_ _)); simp only [Act.put, List.setIfInBounds_toArray, List.set_cons_succ, List.set_cons_zero]; rfl)) ?_; simp only [Act.put, List.setIfInBounds_toArray, List.set_cons_succ, List.set_cons_zero])
        (refine wpRelE_pur rfl rfl (fun x hh => by ((skip); (go_wp2); refine relEndE_pur rfl ?_ (by repeat (first | exact Below.refl _ _ | refine below_ov _ _ ?_ (by first | omega | (simp [ov_size] <;> omega)) | refine Below.alloc ?_ (by first | omega | (simp [ov_size] <;> omega)) _ | refine Below.setCell ?_ (by first | omega | (simp [ov_size] <;> omega)) _ | refine Below.drew ?_ | refine below_drewN ?_ _)); simp only [Act.put, List.setIfInBounds_toArray, List.set_cons_succ, List.set_cons_zero]; rfl)) ?_; simp only [Act.put, List.setIfInBounds_toArray, List.set_cons_succ, List.set_cons_zero])
        (refine wpRelE_pur rfl rfl (fun x hh => by ((skip); (go_wp2); refine relEndE_pur rfl ?_ (by repeat (first | exact Below.refl _ _ | refine below_ov _ _ ?_ (by first | omega | (simp [ov_size] <;> omega)) | refine Below.alloc ?_ (by first | omega | (simp [ov_size] <;> omega)) _ | refine Below.setCell ?_ (by first | omega | (simp [ov_size] <;> omega)) _ | refine Below.drew ?_ | refine below_drewN ?_ _)); simp only [Act.put, List.setIfInBounds_toArray, List.set_cons_succ, List.set_cons_zero]; rfl)) ?_; simp only [Act.put, List.setIfInBounds_toArray, List.set_cons_succ, List.set_cons_zero])
        (refine wpRelE_pur rfl rfl (fun x hh => by ((skip); (go_wp2); refine relEndE_pur rfl ?_ (by repeat (first | exact Below.refl _ _ | refine below_ov _ _ ?_ (by first | omega | (simp [ov_size] <;> omega)) | refine Below.alloc ?_ (by first | omega | (simp [ov_size] <;> omega)) _ | refine Below.setCell ?_ (by first | omega | (simp [ov_size] <;> omega)) _ | refine Below.drew ?_ | refine below_drewN ?_ _)); simp only [Act.put, List.setIfInBounds_toArray, List.set_cons_succ, List.set_cons_zero]; rfl)) ?_; simp only [Act.put, List.setIfInBounds_toArray, List.set_cons_succ, List.set_cons_zero])
        (refine wpRelE_pur rfl rfl (fun x hh => by ((skip); (go_wp2); refine relEndE_pur rfl ?_ (by repeat (first | exact Below.refl _ _ | refine below_ov _ _ ?_ (by first | omega | (simp [ov_size] <;> omega)) | refine Below.alloc ?_ (by first | omega | (simp [ov_size] <;> omega)) _ | refine Below.setCell ?_ (by first | omega | (simp [ov_size] <;> omega)) _ | refine Below.drew ?_ | refine below_drewN ?_ _)); simp only [Act.put, List.setIfInBounds_toArray, List.set_cons_succ, List.set_cons_zero]; rfl)) ?_; simp only [Act.put, List.setIfInBounds_toArray, List.set_cons_succ, List.set_cons_zero])
        (refine wpRelE_pur rfl rfl (fun x hh => by ((skip); (go_wp2); refine relEndE_pur rfl ?_ (by repeat (first | exact Below.refl _ _ | refine below_ov _ _ ?_ (by first | omega | (simp [ov_size] <;> omega)) | refine Below.alloc ?_ (by first | omega | (simp [ov_size] <;> omega)) _ | refine Below.setCell ?_ (by first | omega | (simp [ov_size] <;> omega)) _ | refine Below.drew ?_ | refine below_drewN ?_ _)); simp only [Act.put, List.setIfInBounds_toArray, List.set_cons_succ, List.set_cons_zero]; rfl)) ?_; simp only [Act.put, List.setIfInBounds_toArray, List.set_cons_succ, List.set_cons_zero])
        (refine wpRelE_pur rfl rfl (fun x hh => by ((skip); (go_wp2); refine relEndE_pur rfl ?_ (by repeat (first | exact Below.refl _ _ | refine below_ov _ _ ?_ (by first | omega | (simp [ov_size] <;> omega)) | refine Below.alloc ?_ (by first | omega | (simp [ov_size] <;> omega)) _ | refine Below.setCell ?_ (by first | omega | (simp [ov_size] <;> omega)) _ | refine Below.drew ?_ | refine below_drewN ?_ _)); simp only [Act.put, List.setIfInBounds_toArray, List.set_cons_succ, List.set_cons_zero]; rfl)) ?_; simp only [Act.put, List.setIfInBounds_toArray, List.set_cons_succ, List.set_cons_zero])
        (refine wpRelE_pur rfl rfl (fun x hh => by ((skip); (go_wp2); refine relEndE_pur rfl ?_ (by repeat (first | exact Below.refl _ _ | refine below_ov _ _ ?_ (by first | omega | (simp [ov_size] <;> omega)) | refine Below.alloc ?_ (by first | omega | (simp [ov_size] <;> omega)) _ | refine Below.setCell ?_ (by first | omega | (simp [ov_size] <;> omega)) _ | refine Below.drew ?_ | refine below_drewN ?_ _)); simp only [Act.put, List.setIfInBounds_toArray, List.set_cons_succ, List.set_cons_zero]; rfl)) ?_; simp only [Act.put, List.setIfInBounds_toArray, List.set_cons_succ, List.set_cons_zero])
        (refine wpRelE_pur rfl rfl (fun x hh => by ((skip); (go_wp2); refine relEndE_pur rfl ?_ (by repeat (first | exact Below.refl _ _ | refine below_ov _ _ ?_ (by first | omega | (simp [ov_size] <;> omega)) | refine Below.alloc ?_ (by first | omega | (simp [ov_size] <;> omega)) _ | refine Below.setCell ?_ (by first | omega | (simp [ov_size] <;> omega)) _ | refine Below.drew ?_ | refine below_drewN ?_ _)); simp only [Act.put, List.setIfInBounds_toArray, List.set_cons_succ, List.set_cons_zero]; rfl)) ?_; simp only [Act.put, List.setIfInBounds_toArray, List.set_cons_succ, List.set_cons_zero])
        (refine wpRelE_pur rfl rfl (fun x hh => by ((skip); (go_wp2); refine relEndE_pur rfl ?_ (by repeat (first | exact Below.refl _ _ | refine below_ov _ _ ?_ (by first | omega | (simp [ov_size] <;> omega)) | refine Below.alloc ?_ (by first | omega | (simp [ov_size] <;> omega)) _ | refine Below.setCell ?_ (by first | omega | (simp [ov_size] <;> omega)) _ | refine Below.drew ?_ | refine below_drewN ?_ _)); simp only [Act.put, List.setIfInBounds_toArray, List.set_cons_succ, List.set_cons_zero]; rfl)) ?_; simp only [Act.put, List.setIfInBounds_toArray, List.set_cons_succ, List.set_cons_zero])
        (refine wpRelE_pur rfl rfl (fun x hh => by ((skip); (go_wp2); refine relEndE_pur rfl ?_ (by repeat (first | exact Below.refl _ _ | refine below_ov _ _ ?_ (by first | omega | (simp [ov_size] <;> omega)) | refine Below.alloc ?_ (by first | omega | (simp [ov_size] <;> omega)) _ | refine Below.setCell ?_ (by first | omega | (simp [ov_size] <;> omega)) _ | refine Below.drew ?_ | refine below_drewN ?_ _)); simp only [Act.put, List.setIfInBounds_toArray, List.set_cons_succ, List.set_cons_zero]; rfl)) ?_; simp only [Act.put, List.setIfInBounds_toArray, List.set_cons_succ, List.set_cons_zero])
        (refine wpRelE_pur rfl rfl (fun x hh => by ((skip); (go_wp2); refine relEndE_pur rfl ?_ (by repeat (first | exact Below.refl _ _ | refine below_ov _ _ ?_ (by first | omega | (simp [ov_size] <;> omega)) | refine Below.alloc ?_ (by first | omega | (simp [ov_size] <;> omega)) _ | refine Below.setCell ?_ (by first | omega | (simp [ov_size] <;> omega)) _ | refine Below.drew ?_ | refine below_drewN ?_ _)); simp only [Act.put, List.setIfInBounds_toArray, List.set_cons_succ, List.set_cons_zero]; rfl)) ?_; simp only [Act.put, List.setIfInBounds_toArray, List.set_cons_succ, List.set_cons_zero])
        (refine wpRelE_pur rfl rfl (fun x hh => by ((skip); (go_wp2); refine relEndE_pur rfl ?_ (by repeat (first | exact Below.refl _ _ | refine below_ov _ _ ?_ (by first | omega | (simp [ov_size] <;> omega)) | refine Below.alloc ?_ (by first | omega | (simp [ov_size] <;> omega)) _ | refine Below.setCell ?_ (by first | omega | (simp [ov_size] <;> omega)) _ | refine Below.drew ?_ | refine below_drewN ?_ _)); simp only [Act.put, List.setIfInBounds_toArray, List.set_cons_succ, List.set_cons_zero]; rfl)) ?_; simp only [Act.put, List.setIfInBounds_toArray, List.set_cons_succ, List.set_cons_zero])
        (refine wpRelE_pur rfl rfl (fun x hh => by ((skip); (go_wp2); refine relEndE_pur rfl ?_ (by repeat (first | exact Below.refl _ _ | refine below_ov _ _ ?_ (by first | omega | (simp [ov_size] <;> omega)) | refine Below.alloc ?_ (by first | omega | (simp [ov_size] <;> omega)) _ | refine Below.setCell ?_ (by first | omega | (simp [ov_size] <;> omega)) _ | refine Below.drew ?_ | refine below_drewN ?_ _)); simp only [Act.put, List.setIfInBounds_toArray, List.set_cons_succ, List.set_cons_zero]; rfl)) ?_; simp only [Act.put, List.setIfInBounds_toArray, List.set_cons_succ, List.set_cons_zero])
        (refine wpRelE_pur rfl rfl (fun x hh => by ((skip); (go_wp2); refine relEndE_pur rfl ?_ (by repeat (first | exact Below.refl _ _ | refine below_ov _ _ ?_ (by first | omega | (simp [ov_size] <;> omega)) | refine Below.alloc ?_ (by first | omega | (simp [ov_size] <;> omega)) _ | refine Below.setCell ?_ (by first | omega | (simp [ov_size] <;> omega)) _ | refine Below.drew ?_ | refine below_drewN ?_ _)); simp only [Act.put, List.setIfInBounds_toArray, List.set_cons_succ, List.set_cons_zero]; rfl)) ?_; simp only [Act.put, List.setIfInBounds_toArray, List.set_cons_succ, List.set_cons_zero])
        (refine wpRelE_pur rfl rfl (fun x hh => by ((skip); (go_wp2); refine relEndE_pur rfl ?_ (by repeat (first | exact Below.refl _ _ | refine below_ov _ _ ?_ (by first | omega | (simp [ov_size] <;> omega)) | refine Below.alloc ?_ (by first | omega | (simp [ov_size] <;> omega)) _ | refine Below.setCell ?_ (by first | omega | (simp [ov_size] <;> omega)) _ | refine Below.drew ?_ | refine below_drewN ?_ _)); simp only [Act.put, List.setIfInBounds_toArray, List.set_cons_succ, List.set_cons_zero]; rfl)) ?_; simp only [Act.put, List.setIfInBounds_toArray, List.set_cons_succ, List.set_cons_zero])
        (refine wpRelE_pur rfl rfl (fun x hh => by ((skip); (go_wp2); refine relEndE_pur rfl ?_ (by repeat (first | exact Below.refl _ _ | refine below_ov _ _ ?_ (by first | omega | (simp [ov_size] <;> omega)) | refine Below.alloc ?_ (by first | omega | (simp [ov_size] <;> omega)) _ | refine Below.setCell ?_ (by first | omega | (simp [ov_size] <;> omega)) _ | refine Below.drew ?_ | refine below_drewN ?_ _)); simp only [Act.put, List.setIfInBounds_toArray, List.set_cons_succ, List.set_cons_zero]; rfl)) ?_; simp only [Act.put, List.setIfInBounds_toArray, List.set_cons_succ, List.set_cons_zero])
        (refine wpRelE_pur rfl rfl (fun x hh => by ((skip); (go_wp2); refine relEndE_pur rfl ?_ (by repeat (first | exact Below.refl _ _ | refine below_ov _ _ ?_ (by first | omega | (simp [ov_size] <;> omega)) | refine Below.alloc ?_ (by first | omega | (simp [ov_size] <;> omega)) _ | refine Below.setCell ?_ (by first | omega | (simp [ov_size] <;> omega)) _ | refine Below.drew ?_ | refine below_drewN ?_ _)); simp only [Act.put, List.setIfInBounds_toArray, List.set_cons_succ, List.set_cons_zero]; rfl)) ?_; simp only [Act.put, List.setIfInBounds_toArray, List.set_cons_succ, List.set_cons_zero])
        (refine wpRelE_pur rfl rfl (fun x hh => by ((skip); (go_wp2); refine relEndE_pur rfl ?_ (by repeat (first | exact Below.refl _ _ | refine below_ov _ _ ?_ (by first | omega | (simp [ov_size] <;> omega)) | refine Below.alloc ?_ (by first | omega | (simp [ov_size] <;> omega)) _ | refine Below.setCell ?_ (by first | omega | (simp [ov_size] <;> omega)) _ | refine Below.drew ?_ | refine below_drewN ?_ _)); simp only [Act.put, List.setIfInBounds_toArray, List.set_cons_succ, List.set_cons_zero]; rfl)) ?_; simp only [Act.put, List.setIfInBounds_toArray, List.set_cons_succ, List.set_cons_zero])
        (refine wpRelE_pur rfl rfl (fun x hh => by ((skip); (go_wp2); refine relEndE_pur rfl ?_ (by repeat (first | exact Below.refl _ _ | refine below_ov _ _ ?_ (by first | omega | (simp [ov_size] <;> omega)) | refine Below.alloc ?_ (by first | omega | (simp [ov_size] <;> omega)) _ | refine Below.setCell ?_ (by first | omega | (simp [ov_size] <;> omega)) _ | refine Below.drew ?_ | refine below_drewN ?_ _)); simp only [Act.put, List.setIfInBounds_toArray, List.set_cons_succ, List.set_cons_zero]; rfl)) ?_; simp only [Act.put, List.setIfInBounds_toArray, List.set_cons_succ, List.set_cons_zero])
        (refine wpRelE_pur rfl rfl (fun x hh => by ((skip); (go_wp2_with (first | (go_at_call 50; refine (calls_ov (spec_SpotOf_eq HR (by omega) (by omega) (by omega))).mono ?_; rintro e w' ⟨rfl, x, rfl⟩))); refine relEndE_pur rfl ?_ (by repeat (first | exact Below.refl _ _ | refine below_ov _ _ ?_ (by first | omega | (simp [ov_size] <;> omega)) | refine Below.alloc ?_ (by first | omega | (simp [ov_size] <;> omega)) _ | refine Below.setCell ?_ (by first | omega | (simp [ov_size] <;> omega)) _ | refine Below.drew ?_ | refine below_drewN ?_ _)); simp only [Act.put, List.setIfInBounds_toArray, List.set_cons_succ, List.set_cons_zero]; rfl)) ?_; simp only [Act.put, List.setIfInBounds_toArray, List.set_cons_succ, List.set_cons_zero])
        (refine wpRelE_pur rfl rfl (fun x hh => by ((skip); (go_wp2); refine relEndE_pur rfl ?_ (by repeat (first | exact Below.refl _ _ | refine below_ov _ _ ?_ (by first | omega | (simp [ov_size] <;> omega)) | refine Below.alloc ?_ (by first | omega | (simp [ov_size] <;> omega)) _ | refine Below.setCell ?_ (by first | omega | (simp [ov_size] <;> omega)) _ | refine Below.drew ?_ | refine below_drewN ?_ _)); simp only [Act.put, List.setIfInBounds_toArray, List.set_cons_succ, List.set_cons_zero]; rfl)) ?_; simp only [Act.put, List.setIfInBounds_toArray, List.set_cons_succ, List.set_cons_zero])
        (refine wpRelE_pur rfl rfl (fun x hh => by ((skip); (go_wp2); refine relEndE_pur rfl ?_ (by repeat (first | exact Below.refl _ _ | refine below_ov _ _ ?_ (by first | omega | (simp [ov_size] <;> omega)) | refine Below.alloc ?_ (by first | omega | (simp [ov_size] <;> omega)) _ | refine Below.setCell ?_ (by first | omega | (simp [ov_size] <;> omega)) _ | refine Below.drew ?_ | refine below_drewN ?_ _)); simp only [Act.put, List.setIfInBounds_toArray, List.set_cons_succ, List.set_cons_zero]; rfl)) ?_; simp only [Act.put, List.setIfInBounds_toArray, List.set_cons_succ, List.set_cons_zero])
        refine wpRelE_old rfl rfl rfl rfl (by decide) rfl (Nat.le_refl _) (vv_pur rfl) rfl (by kernel_rfl) (fun _ _ => ⟨rfl, by simp [Value.cells, Value.oneCell']⟩) (by repeat (first | exact all_nil | refine all_cons trivial ?_ | refine all_cons isAl_steady ?_ | refine all_cons (isOw_steady (by assumption)) ?_)) ?_
        (refine wpRelE_pur rfl rfl (fun x hh => by ((skip); (go_wp2); refine relEndE_pur rfl ?_ (by repeat (first | exact Below.refl _ _ | refine below_ov _ _ ?_ (by first | omega | (simp [ov_size] <;> omega)) | refine Below.alloc ?_ (by first | omega | (simp [ov_size] <;> omega)) _ | refine Below.setCell ?_ (by first | omega | (simp [ov_size] <;> omega)) _ | refine Below.drew ?_ | refine below_drewN ?_ _)); simp only [Act.put, List.setIfInBounds_toArray, List.set_cons_succ, List.set_cons_zero]; rfl)) ?_; simp only [Act.put, List.setIfInBounds_toArray, List.set_cons_succ, List.set_cons_zero])
        refine wpRelE_nil (fun wp hbp hEp hh => ?_)
        have hX := isStB_pur (hh 33 (by intro k hk; simp at hk)) rfl rfl
        have x4 := cell_blk (j := 0) (v := .int .i64 r) hX rfl
        have x5 := cell_blk (j := 1) (v := .int .i64 s) hX rfl
        have x6 := cell_blk (j := 2) (v := .int .i64 t) hX rfl
        have l4 := (Array.getElem?_eq_some_iff.1 hX).1
        have hbw : Below w.heap.size w wp := T0.trans (hbp.mono s1)
        clear hX hh hEp
        go_wp2
        refine bodyPost_ret (v := .tuple #[.agg #[.int .i64 r, .int .i64 s, .int .i64 t], .bool ok]) (by simp [results, Try.results20, go_sem, x4, x5, x6, l4]) rfl ⟨rfl, hbw⟩
      case' hst => exact (by repeat (first | exact all_nil | refine all_cons trivial ?_ | refine all_cons isAl_stable ?_ | refine all_cons isSt_stable ?_ | refine all_cons isStB_stable ?_ | refine all_cons (isOw_stable (by assumption)) ?_))
end Go.Proofs.Ytncolpeeilgndaa
