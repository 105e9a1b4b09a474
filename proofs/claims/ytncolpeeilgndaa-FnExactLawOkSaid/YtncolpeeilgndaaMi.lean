/- Rows of ints in the laws: the argument opened, the copy, the comparison. Condition: at most 2^20 ints where said. -/
import Derived.Test.YtncolpeeilgndaaLb
import Derived.Test.YtncolpeeilgndaaRg
import Derived.OwnWalk
import Derived.Deep.Slices
import Derived.Deep.Fields
import Derived.ChangeSame
set_option linter.unusedSimpArgs false
set_option linter.unusedVariables false
set_option linter.unusedSectionVars false
namespace Go.Proofs.Ytncolpeeilgndaa
open Go.ChangeShapes Go.WideShapes Go.ChangeAt Go.RowKit Go.Joins Go.Deep

/-- A row of ints: any address. -/
def RI (w : World) (A : Option Addr) (xs : List Int) : Prop := ∀ k (hk : k < xs.length), ∃ g o, A = some ⟨g, o, none⟩ ∧ g < w.heap.size ∧ w.cell? ⟨g, o + k, none⟩ = some (.int .i64 xs[k])
theorem RI.below {w w' : World} {A : Option Addr} {xs : List Int} (h : RI w A xs) (hb : Below w.heap.size w w') : RI w' A xs := fun k hk => by
  obtain ⟨g, o, h1, h2, h3⟩ := h k hk
  have := hb.size
  exact ⟨g, o, h1, by omega, (hb.cell (p := ⟨g, o + k, none⟩) h2).trans h3⟩
theorem cell?_addr {w : World} {a : Addr} {v : Value} (h : w.cell? a = some v) : a.spot = none ∧ a.block < w.heap.size := by
  unfold World.cell? at h
  split at h
  · rename_i c t f hb
    refine ⟨?_, (Array.getElem?_eq_some_iff.1 hb).1⟩
    cases hs : a.spot with
    | none => rfl
    | some x => rw [hs] at h; simp at h
  · cases h
theorem list_of {α : Type} {P : Nat → α → Prop} : ∀ (n : Nat), (∀ i, i < n → ∃ x, P i x) → ∃ l : List α, l.length = n ∧ ∀ i (h : i < l.length), P i l[i]
  | 0, _ => ⟨[], rfl, fun i h => by simp at h⟩
  | n + 1, h => by
    obtain ⟨l, hl, hp⟩ := list_of n fun i hi => h i (by omega)
    obtain ⟨x, hx⟩ := h n (by omega)
    refine ⟨l ++ [x], by simp [hl], fun i hi => ?_⟩
    by_cases hin : i < l.length
    · rw [List.getElem_append_left hin]; exact hp i hin
    · have : i = l.length := by simp at hi; omega
      subst this
      rw [List.getElem_append_right (Nat.le_refl _)]
      simp only [Nat.sub_self, List.getElem_cons_zero]
      rw [hl]; exact hx
section
variable {H : Type} {enc : TypeId × Value → H} {w : World} {base : Nat} {spare : Nat → Bool} {held : Bool} {n : Nat}
theorem ints_of_trod {cs : List Value} {y : DataW H × List MemPlace} (h : DataW.trod enc Try.prog w base spare held n 51 cs = some y) : ∃ (A : Option Addr) (c : Nat) (xs : List Int), cs = [.slice A xs.length c] ∧ RI w A xs ∧ xs.length ≤ c ∧ c ≤ maxLen ∧ ∀ x ∈ xs, -9223372036854775808 ≤ x ∧ x ≤ 9223372036854775807 := by
  rcases open_slice Try.underlying51 h with ⟨rfl, _⟩ | ⟨a, len, cap, m, n', D, Pl, rfl, hb, hl, hm, hmm, _, hi⟩
  · exact ⟨none, 0, [], rfl, fun k hk => by simp at hk, Nat.le_refl _, by unfold maxLen; omega, fun x hx => by cases hx⟩
  · have hlm : len ≤ m := by rw [hmm]; split <;> omega
    have cell0 : ∀ i, i < len → ∃ x : Int, w.cell? (a.add i) = some (.int .i64 x) ∧ -9223372036854775808 ≤ x ∧ x ≤ 9223372036854775807 := by
      intro i hi'
      obtain ⟨cs', hc, ht⟩ := hi i (by omega)
      rw [cells_int] at hc
      obtain ⟨_, hcl, hat⟩ := World.cells?_some hc
      match cs', hcl with
      | [c0], _ =>
        obtain ⟨x, rfl, hx⟩ := int_of_trod ht
        have c0 := hat 0 (by omega)
        rw [Go.Deep.add_add, Nat.mul_one, Nat.add_zero] at c0
        exact ⟨x, c0, hx⟩
    have hall : ∀ i, i < len → ∃ x : Int, (∃ g o, (some a : Option Addr) = some ⟨g, o, none⟩ ∧ g < w.heap.size ∧ w.cell? ⟨g, o + i, none⟩ = some (.int .i64 x)) ∧ -9223372036854775808 ≤ x ∧ x ≤ 9223372036854775807 := by
      intro i hi'
      obtain ⟨x0, h0, _⟩ := cell0 0 (by omega)
      obtain ⟨x, c0, hx⟩ := cell0 i hi'
      rw [show a.add 0 = a by simp [Addr.add]] at h0
      obtain ⟨sp, hbk⟩ := cell?_addr h0
      obtain ⟨g, o, sp'⟩ := a
      simp only at sp hbk
      subst sp
      rw [Addr.add_lit] at c0
      exact ⟨x, ⟨g, o, rfl, hbk, c0⟩, hx⟩
    obtain ⟨xs, hxl, hx⟩ := list_of len hall
    subst hxl
    refine ⟨some a, cap, xs, rfl, fun k hk => (hx k hk).1, hl, hm, fun x hxm => ?_⟩
    obtain ⟨i, hi', rfl⟩ := List.mem_iff_getElem.1 hxm
    exact (hx i hi').2
set_option maxRecDepth 100000 in
theorem open_ints {v : Value} {d : DataW H} {p : List MemPlace} {r : Reach} {b0 : Nat} (hv : Value.okWide Try.prog w r b0 51 v) (h : DataW.Trod enc Try.prog w base spare held 51 v d p) :
    ∃ (A : Option Addr) (c : Nat) (xs : List Int), v = .slice A xs.length c ∧ RI w A xs ∧ xs.length ≤ 9223372036854775807 ∧ ∀ x ∈ xs, -9223372036854775808 ≤ x ∧ x ≤ 9223372036854775807 := by
  obtain ⟨fuel, hf⟩ := h
  obtain ⟨A, c, xs, e, h1, h2, h3, h4⟩ := ints_of_trod hf
  obtain ⟨a, l, k, rfl⟩ := okWide_slice Try.underlying51 hv
  simp [Value.cells] at e
  exact ⟨A, c, xs, by rw [e.1, e.2.1, e.2.2], h1, by unfold maxLen at h3; omega, h4⟩
end

/-- What a call that copies a row of ints leaves. -/
def IntsOut (w : World) (xs : List Int) (e : Ending) (w' : World) : Prop := ∃ A c, e = .returned (.slice A xs.length c) ∧ RI w' A xs ∧ Below w.heap.size w w'

theorem info_int : (Try.prog.info? 3).map (fun i => (i.zero, i.size, i.bytes)) = some (some (.int .i64 0), 1, 8) := by kernel_rfl
theorem info_int_parts : ∃ i, Try.prog.info? 3 = some i ∧ i.zero = some (.int .i64 0) ∧ i.size = 1 ∧ i.bytes = 8 := by
  have h := info_int
  cases hq : Try.prog.info? 3 with
  | none => rw [hq] at h; cases h
  | some i => rw [hq] at h; simp at h; exact ⟨i, rfl, h.1, h.2.1, h.2.2⟩

set_option maxHeartbeats 2000000 in
theorem toIntS_any {xs : List Int} {A : Option Addr} {c : Nat} {w : World} (R : RI w A xs) (hl : xs.length ≤ 1048576) :
    Calls Try.prog 22 #[.slice A xs.length c] w (IntsOut w xs) := by
  obtain ⟨i0, hi, hz0, hz1, hz2⟩ := info_int_parts
  go_enter Try.func22, Try.ntmps22
  go_wp2_with (at_make; refine wpList_make_full _ rfl _ _ 51 rfl w.heap.size 3 i0 (.int .i64 0) 1 Try.underlying51 hi hz0 hz1 _ _ _ _ xs.length rfl rfl rfl rfl (by rw [hz2]; omega) (by unfold maxLen; omega) (Nat.le_refl _) ?_; intro w1 O1 hg1)
  have hb1 : Below w.heap.size w w1 := ⟨hg1.os, hg1.tape, hg1.output, hg1.size, fun k hk => hg1.block k hk (by simp)⟩
  have HB : ∃ cur : Array Value, w1.heap[w.heap.size]? = some (.cells cur 3 (0, 0)) ∧ cur.size = xs.length := by
    rcases O1.2 with ⟨e, _⟩ | ⟨g, cap, cur, e, _, hg, _, _, hs, _⟩
    · cases e
    · injection e with e1 _ e3
      injection e1 with e1
      injection e1 with e1
      subst e1 e3
      exact ⟨cur, hg, by omega⟩
  clear O1 hg1
  go_wp2
  obtain ⟨B, hB⟩ : ∃ B, w.heap.size = B := ⟨_, rfl⟩
  rw [hB] at HB
  have hb1' : Below B w w1 := by rw [← hB]; exact hb1
  generalize hB2 : w.heap.size = B2 at hb1 ⊢
  have hB3 : B2 = B := by omega
  subst hB3
  go_loopw [4] (fun i wr => ∃ k : Nat, k ≤ xs.length ∧ i = .int .i64 k ∧ (∃ cur : Array Value, wr.heap[B2]? = some (.cells cur 3 (0, 0)) ∧ cur.size = xs.length ∧ ∀ j (hj : j < xs.length), j < k → cur[j]? = some (.int .i64 xs[j])) ∧ Below B2 w wr) (fun i _ => xs.length - (intOf i).toNat)
  case atStart => exact ⟨0, Nat.zero_le _, rfl, by obtain ⟨cur, h1, h2⟩ := HB; exact ⟨cur, h1, h2, fun j hj h0 => by omega⟩, hb1⟩
  case round =>
    obtain ⟨k, hk, rfl, ⟨cur, hc1, hc2, hc3⟩, hb⟩ := hrel
    have hbs := hb.size
    have hbw : Below w.heap.size w wr := by rw [hB]; exact hb
    have hBl := (Array.getElem?_eq_some_iff.1 hc1).1
    by_cases hlt : k < xs.length
    · obtain ⟨g, o, rfl, hg, z0⟩ := (R.below hbw) k hlt
      have f0 := frozen_blk (j := k) hc1
      obtain ⟨v0, c0⟩ : ∃ v, wr.cell? ⟨B2, k, none⟩ = some v := ⟨_, cell_blk hc1 (Array.getElem?_eq_getElem (by omega))⟩
      have HN := Lib.hid (heap_setCell_same wr B2 k cur 3 (.int .i64 xs[k]) hc1)
      have HC := Lib.hid hc3
      have HS := Lib.hid hc2
      have HW := Lib.hid (show Below B2 w (wr.setCell ⟨B2, k, none⟩ (.int .i64 xs[k])) from hb.setCell (Nat.le_refl _) _)
      clear R hB hb1' HB hbw hc3 hc2 hc1
      go_wp2
      go_roundw
      case rel => exact ⟨k + 1, by omega, by go_num, ⟨_, HN.out, by have := HS.out; simpa using this, fun j hj h => by
        by_cases e : j = k
        · subst e; rw [Array.getElem?_setIfInBounds_self_of_lt (by have := HS.out; omega)]
        · rw [Array.getElem?_setIfInBounds_ne (Ne.symm e)]; exact HC.out j hj (by omega)⟩, HW.out⟩
      case measure => simp [intOf] <;> omega
    · obtain rfl : k = xs.length := by omega
      go_wp2
      go_ret
      exact ⟨some ⟨B2, 0, none⟩, xs.length, rfl, fun j hj => ⟨B2, 0, rfl, hBl, by rw [Nat.zero_add]; exact cell_blk hc1 (hc3 j hj hj)⟩, by rw [hB]; exact hb⟩

set_option maxHeartbeats 1000000 in
theorem eqIntS_same {xs : List Int} {A1 A2 : Option Addr} {c1 c2 : Nat} {w : World} (R1 : RI w A1 xs) (R2 : RI w A2 xs) (hx : xs.length ≤ 1000000000) :
    Calls Try.prog 25 #[.slice A1 xs.length c1, .slice A2 xs.length c2] w fun e w' => e = .returned (.bool true) ∧ Below w.heap.size w w' := by
  go_enter Try.func25, Try.ntmps25
  go_wp2
  go_loopw [5] (fun i wr => ∃ k : Nat, k ≤ xs.length ∧ i = .int .i64 k ∧ Below w.heap.size w wr) (fun i _ => xs.length - (intOf i).toNat)
  case atStart => exact ⟨0, Nat.zero_le _, rfl, Below.refl _ _⟩
  case round =>
    obtain ⟨k, hk, rfl, hb⟩ := hrel
    have hbs := hb.size
    by_cases hlt : k < xs.length
    · obtain ⟨g1, o1, rfl, hg1, z0⟩ := (R1.below hb) k hlt
      obtain ⟨g2, o2, rfl, hg2, y0⟩ := (R2.below hb) k hlt
      have z1 : (xs[k] != xs[k]) = false := by simp
      clear R1 R2
      go_wp2
      ((first | (with_reducible refine wp_region_calm2 (by kernel_rfl) (by kernel_rfl) ?_) | refine wp_region_calm (by kernel_rfl) (by kernel_rfl) ?_); (repeat (go_big_quiet_step (first | fail))); refine wpQuiet_nil ?_; rintro _ ⟨y, rfl⟩)
      go_wp2
      go_roundw
      case rel => exact ⟨k + 1, by omega, by go_num, (by repeat (first | exact hb | refine below_ov _ _ ?_ (by first | omega | (simp [ov_size] <;> omega)) | refine Below.alloc ?_ (by first | omega | (simp [ov_size] <;> omega)) _ | refine Below.setCell ?_ (by first | omega | (simp [ov_size] <;> omega)) _ | refine Below.drew ?_ | refine below_drewN ?_ _))⟩
      case measure => simp [intOf] <;> omega
    · obtain rfl : k = xs.length := by omega
      go_wp2
      go_ret
      exact ⟨rfl, hb⟩
end Go.Proofs.Ytncolpeeilgndaa
