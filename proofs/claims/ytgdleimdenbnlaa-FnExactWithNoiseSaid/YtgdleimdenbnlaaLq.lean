/- What the laws on regions use: the argument opened, the copies, the comparisons, the marks. Condition: rows of at most 2^20 half planes where said. Contracts of the laws' helpers on regions: szRegion, toRegion, eqRegion, markRegion, heldRegion. Condition: rows of at most 2^20 half planes where said. Contracts of markRegion and heldRegion. Condition: rows of at most 2^20 half planes. Region operations whose values are rows that the region's calls make; rows apart from one another. No condition. -/
import Derived.Test.YtgdleimdenbnlaaLb
import Derived.Test.YtgdleimdenbnlaaRs
import Derived.OwnWalk
import Derived.Deep.Slices
import Derived.Deep.Fields
import Derived.ChangeSame
set_option linter.unusedSimpArgs false
set_option linter.unusedVariables false
set_option linter.unusedSectionVars false
namespace Go.Proofs.Ytgdleimdenbnlaa
open Go.ChangeShapes Go.WideShapes Go.ChangeAt Go.RowKit Go.Joins Go.Deep

/-- A row of half planes that came in: any address. -/
def RL (w : World) (A : Option Addr) (xs : List H3) : Prop := ∀ k (hk : k < xs.length), ∃ g o, A = some ⟨g, o, none⟩ ∧ g < w.heap.size ∧
  w.cell? ⟨g, o + k * 3, none⟩ = some (.int .i64 xs[k].a) ∧ w.cell? ⟨g, o + k * 3 + 1, none⟩ = some (.int .i64 xs[k].b) ∧ w.cell? ⟨g, o + k * 3 + 2, none⟩ = some (.int .i64 xs[k].c)
theorem RL.below {w w' : World} {A : Option Addr} {xs : List H3} (h : RL w A xs) (hb : Below w.heap.size w w') : RL w' A xs := fun k hk => by
  obtain ⟨g, o, h1, h2, h3, h4, h5⟩ := h k hk
  have := hb.size
  exact ⟨g, o, h1, by omega, (hb.cell (p := ⟨g, o + k * 3, none⟩) h2).trans h3, (hb.cell (p := ⟨g, o + k * 3 + 1, none⟩) h2).trans h4, (hb.cell (p := ⟨g, o + k * 3 + 2, none⟩) h2).trans h5⟩
theorem cell?_addr {w : World} {a : Addr} {v : Value} (h : w.cell? a = some v) : a.spot = none ∧ a.block < w.heap.size := by
  unfold World.cell? at h
  split at h
  · rename_i c t f hb
    refine ⟨?_, (Array.getElem?_eq_some_iff.1 hb).1⟩
    cases hs : a.spot with
    | none => rfl
    | some x => rw [hs] at h; simp at h
  · cases h
theorem list_of {α : Type} {P : Nat → α → Prop} : ∀ (n : Nat), (∀ i, i < n → ∃ x, P i x) → ∃ l : List α, l.length = n ∧ ∀ i (h : i < l.length), P i l[i]
  | 0, _ => ⟨[], rfl, fun i h => by simp at h⟩
  | n + 1, h => by
    obtain ⟨l, hl, hp⟩ := list_of n fun i hi => h i (by omega)
    obtain ⟨x, hx⟩ := h n (by omega)
    refine ⟨l ++ [x], by simp [hl], fun i hi => ?_⟩
    by_cases hin : i < l.length
    · rw [List.getElem_append_left hin]; exact hp i hin
    · have : i = l.length := by simp at hi; omega
      subst this
      rw [List.getElem_append_right (Nat.le_refl _)]
      simp only [Nat.sub_self, List.getElem_cons_zero]
      rw [hl]; exact hx

section
variable {H : Type} {enc : TypeId × Value → H} {w : World} {base : Nat} {spare : Nat → Bool} {held : Bool} {n : Nat}
theorem cells_half : Try.prog.cellsOf 46 = 3 := by kernel_rfl
theorem half_of_trod {cs : List Value} {y : DataW H × List MemPlace} (hl : cs.length = 3) (h : DataW.trod enc Try.prog w base spare held n 46 cs = some y) :
    ∃ g : H3, cs = [.int .i64 g.a, .int .i64 g.b, .int .i64 g.c] ∧ (-9223372036854775808 ≤ g.a ∧ g.a ≤ 9223372036854775807) ∧ (-9223372036854775808 ≤ g.b ∧ g.b ≤ 9223372036854775807) ∧ (-9223372036854775808 ≤ g.c ∧ g.c ≤ 9223372036854775807) := by
  match cs, hl with
  | [c0, c1, c2], _ =>
    obtain ⟨ys, n', _, _, _, _, hf⟩ := DataW.trod_struct Try.underlying46 h
    have f0 : DataW.trod enc Try.prog w base spare held n' 3 [c0] = ys[0]? := by simpa [cells_int] using hf 0 _ rfl
    have f1 : DataW.trod enc Try.prog w base spare held n' 3 [c1] = ys[1]? := by simpa [cells_int] using hf 1 _ rfl
    have f2 : DataW.trod enc Try.prog w base spare held n' 3 [c2] = ys[2]? := by simpa [cells_int] using hf 2 _ rfl
    have hyl : ys.length = 3 := by assumption
    obtain ⟨y0, hy0⟩ : ∃ y0, ys[0]? = some y0 := ⟨_, List.getElem?_eq_getElem (by omega)⟩
    obtain ⟨y1, hy1⟩ : ∃ y0, ys[1]? = some y0 := ⟨_, List.getElem?_eq_getElem (by omega)⟩
    obtain ⟨y2, hy2⟩ : ∃ y0, ys[2]? = some y0 := ⟨_, List.getElem?_eq_getElem (by omega)⟩
    rw [hy0] at f0
    rw [hy1] at f1
    rw [hy2] at f2
    obtain ⟨a, rfl, ba⟩ := int_of_trod f0
    obtain ⟨b, rfl, bb⟩ := int_of_trod f1
    obtain ⟨c, rfl, bc⟩ := int_of_trod f2
    exact ⟨⟨a, b, c⟩, rfl, ba, bb, bc⟩
set_option maxRecDepth 100000 in
theorem open_half {v : Value} {d : DataW H} {p : List MemPlace} {r : Reach} {b0 : Nat} (hv : Value.okWide Try.prog w r b0 46 v) (h : DataW.Trod enc Try.prog w base spare held 46 v d p) :
    ∃ g : H3, v = .agg #[.int .i64 g.a, .int .i64 g.b, .int .i64 g.c] ∧ (-9223372036854775808 ≤ g.a ∧ g.a ≤ 9223372036854775807) ∧ (-9223372036854775808 ≤ g.b ∧ g.b ≤ 9223372036854775807) ∧ (-9223372036854775808 ≤ g.c ∧ g.c ≤ 9223372036854775807) := by
  obtain ⟨⟨l⟩, rfl, hsz⟩ := okWide_struct Try.underlying46 hv
  rw [cells_half] at hsz
  obtain ⟨fuel, hf⟩ := h
  obtain ⟨g, e, h1⟩ := half_of_trod hsz hf
  simp [Value.cells] at e
  subst e
  exact ⟨g, rfl, h1⟩
/-- A row of half planes that came in. -/
theorem row_of_trod {cs : List Value} {y : DataW H × List MemPlace} (h : DataW.trod enc Try.prog w base spare held n 23 cs = some y) : ∃ (A : Option Addr) (c : Nat) (xs : List H3), cs = [.slice A xs.length c] ∧ RL w A xs ∧ xs.length ≤ c ∧ c ≤ maxLen := by
  rcases open_slice Try.underlying23 h with ⟨rfl, _⟩ | ⟨a, len, cap, m, n', D, Pl, rfl, hb, hl, hm, hmm, _, hi⟩
  · exact ⟨none, 0, [], rfl, fun k hk => by simp at hk, Nat.le_refl _, by unfold maxLen; omega⟩
  · have hlm : len ≤ m := by rw [hmm]; split <;> omega
    have cell0 : ∀ i, i < len → ∃ x : H3, w.cell? (a.add (i * 3)) = some (.int .i64 x.a) ∧ w.cell? (a.add (i * 3 + 1)) = some (.int .i64 x.b) ∧ w.cell? (a.add (i * 3 + 2)) = some (.int .i64 x.c) := by
      intro i hi'
      obtain ⟨cs', hc, ht⟩ := hi i (by omega)
      rw [cells_half] at hc
      obtain ⟨_, hcl, hat⟩ := World.cells?_some hc
      obtain ⟨g, rfl, _⟩ := half_of_trod hcl ht
      have c0 := hat 0 (by omega)
      have c1 := hat 1 (by omega)
      have c2 := hat 2 (by omega)
      rw [Go.Deep.add_add] at c0 c1 c2
      exact ⟨g, c0, c1, c2⟩
    have hall : ∀ i, i < len → ∃ x : H3, ∃ g o, (some a : Option Addr) = some ⟨g, o, none⟩ ∧ g < w.heap.size ∧ w.cell? ⟨g, o + i * 3, none⟩ = some (.int .i64 x.a) ∧ w.cell? ⟨g, o + i * 3 + 1, none⟩ = some (.int .i64 x.b) ∧ w.cell? ⟨g, o + i * 3 + 2, none⟩ = some (.int .i64 x.c) := by
      intro i hi'
      obtain ⟨x0, h0, _⟩ := cell0 0 (by omega)
      obtain ⟨x, c0, c1, c2⟩ := cell0 i hi'
      rw [show a.add (0 * 3) = a by simp [Addr.add]] at h0
      obtain ⟨sp, hbk⟩ := cell?_addr h0
      obtain ⟨g, o, sp'⟩ := a
      simp only at sp hbk
      subst sp
      rw [Addr.add_lit] at c0 c1 c2
      exact ⟨x, g, o, rfl, hbk, c0, c1, c2⟩
    obtain ⟨xs, hxl, hx⟩ := list_of len hall
    subst hxl
    exact ⟨some a, cap, xs, rfl, fun k hk => hx k hk, hl, hm⟩
set_option maxRecDepth 100000 in
theorem open_region {v : Value} {d : DataW H} {p : List MemPlace} {r : Reach} {b0 : Nat} (hv : Value.okWide Try.prog w r b0 25 v) (h : DataW.Trod enc Try.prog w base spare held 25 v d p) :
    ∃ (A : Option Addr) (c : Nat) (xs : List H3), v = .agg #[.slice A xs.length c] ∧ RL w A xs ∧ xs.length ≤ 9223372036854775807 := by
  obtain ⟨⟨l⟩, rfl, hsz⟩ := okWide_struct Try.underlying25 hv
  rw [show Try.prog.cellsOf 25 = 1 by kernel_rfl] at hsz
  match l, hsz with
  | [c0], _ =>
    obtain ⟨fuel, hf⟩ := h
    obtain ⟨ys, n', _, _, _, hyl, hg⟩ := DataW.trod_struct Try.underlying25 hf
    have f0 : DataW.trod enc Try.prog w base spare held n' 23 [c0] = ys[0]? := by simpa [show Try.prog.cellsOf 23 = 1 by kernel_rfl, Value.cells] using hg 0 _ rfl
    obtain ⟨y0, hy0⟩ : ∃ y0, ys[0]? = some y0 := ⟨_, List.getElem?_eq_getElem (by rw [hyl]; decide)⟩
    rw [hy0] at f0
    obtain ⟨A, c, xs, e, h1, h2, h3⟩ := row_of_trod f0
    injection e with e
    subst e
    exact ⟨A, c, xs, rfl, h1, by unfold maxLen at h3; omega⟩
end
end Go.Proofs.Ytgdleimdenbnlaa

set_option linter.unusedSimpArgs false
set_option linter.unusedVariables false
set_option linter.unusedSectionVars false
namespace Go.Proofs.Ytgdleimdenbnlaa
open Go.ChangeShapes Go.WideShapes Go.ChangeAt Go.RowKit Go.Joins

def szL (n : Nat) (left : Int) : Int := if left - n < 0 then -1 else left - n
theorem szHalfS_eq {n c : Nat} {A : Option Addr} {left v : Int} {w : World} (h : Hid (szL n left = v)) (hn : n ≤ 9223372036854775807) (hl : 0 ≤ left ∧ left ≤ 1048576) :
    Calls Try.prog 65 #[.slice A n c, .int .i64 left] w fun e w' => e = .returned (.int .i64 v) ∧ Below w.heap.size w w' := by
  have h' := h.out
  unfold szL at h'
  by_cases hc : left - n < 0
  · rw [if_pos hc] at h'
    subst h'
    go_enter Try.func65, Try.ntmps65
    go_wp2
    go_ret
    exact ⟨rfl, (by repeat (first | exact bR | refine bO ?_ | refine bA ?_ | refine bS ?_ | refine bD ?_ | refine bN ?_))⟩
  · rw [if_neg hc] at h'
    subst h'
    go_enter Try.func65, Try.ntmps65
    go_wp2
    go_ret
    exact ⟨rfl, (by repeat (first | exact bR | refine bO ?_ | refine bA ?_ | refine bS ?_ | refine bD ?_ | refine bN ?_))⟩
theorem szRegion_eq {n c : Nat} {A : Option Addr} {left v : Int} {w : World} (h : Hid (szL n left = v)) (hn : n ≤ 9223372036854775807) (hl : 0 ≤ left ∧ left ≤ 1048576) :
    Calls Try.prog 29 #[.agg #[.slice A n c], .int .i64 left] w fun e w' => e = .returned (.int .i64 v) ∧ Below w.heap.size w w' := by
  have h' := h.out
  unfold szL at h'
  by_cases hc : v < 0
  · have : v = -1 := by split at h' <;> omega
    subst this
    go_enter Try.func29, Try.ntmps29
    go_wp2_with ((go_at_call 65; (first | (with_reducible refine (calls_ov2 (szHalfS_eq h hn hl)).mono ?_) | refine (calls_ov (szHalfS_eq h hn hl)).mono ?_); rintro e w' ⟨rfl, x, rfl⟩))
    go_ret
    exact ⟨rfl, (by repeat (first | exact bR | refine bO ?_ | refine bA ?_ | refine bS ?_ | refine bD ?_ | refine bN ?_))⟩
  · go_enter Try.func29, Try.ntmps29
    go_wp2_with ((go_at_call 65; (first | (with_reducible refine (calls_ov2 (szHalfS_eq h hn hl)).mono ?_) | refine (calls_ov (szHalfS_eq h hn hl)).mono ?_); rintro e w' ⟨rfl, x, rfl⟩))
    go_ret
    exact ⟨rfl, (by repeat (first | exact bR | refine bO ?_ | refine bA ?_ | refine bS ?_ | refine bD ?_ | refine bN ?_))⟩

theorem toHalf_any (g : H3) (w : World) :
    Calls Try.prog 23 #[.agg #[.int .i64 g.a, .int .i64 g.b, .int .i64 g.c]] w fun e w' => e = .returned (.agg #[.int .i64 g.a, .int .i64 g.b, .int .i64 g.c]) ∧ Below w.heap.size w w' := by
  go_enter Try.func23, Try.ntmps23
  go_wp2
  refine bodyPost_ret (v := .agg #[.int .i64 g.a, .int .i64 g.b, .int .i64 g.c]) (by simp [results, Try.results23, go_sem]) rfl ⟨rfl, ?_⟩
  (repeat (first | exact bR | refine bO ?_ | refine bA ?_ | refine bS ?_ | refine bD ?_ | refine bN ?_))

theorem addr_block {g g' : Nat} (e : some (⟨g, 0, none⟩ : Addr) = some ⟨g', 0, none⟩) : g' = g := by injection e with e; injection e with e; exact e.symm
theorem made3 (n : Nat) : (madeCells (Value.agg #[.int .i64 0, .int .i64 0, .int .i64 0]).cells (n * 3)).toList = cells3 (List.replicate n ⟨0, 0, 0⟩) := by
  apply List.ext_getElem?
  intro j
  by_cases hj : j < n * 3
  · have h1 : (madeCells (Value.agg #[.int .i64 0, .int .i64 0, .int .i64 0]).cells (n * 3)).toList[j]? = some (.int .i64 0) := by
      have h3 : j % 3 < 3 := Nat.mod_lt _ (by decide)
      simp [madeCells, Value.cells, hj]
      match j % 3, h3 with
      | 0, _ => rfl
      | 1, _ => rfl
      | 2, _ => rfl
    rw [h1]
    have hk : j / 3 < (List.replicate n (⟨0, 0, 0⟩ : H3)).length := by simp; omega
    obtain ⟨c0, c1, c2⟩ := cells3_get (List.replicate n ⟨0, 0, 0⟩) (j / 3) hk
    simp only [List.getElem_replicate] at c0 c1 c2
    have : j = j / 3 * 3 ∨ j = j / 3 * 3 + 1 ∨ j = j / 3 * 3 + 2 := by omega
    rcases this with e | e | e
    · rw [e, c0]
    · rw [e, c1]
    · rw [e, c2]
  · rw [List.getElem?_eq_none (by simp [size_madeCells]; omega), List.getElem?_eq_none (by rw [cells3_length]; simp; omega)]

theorem fill_set {hs : List H3} {k : Nat} (hk : k < hs.length) : (hs.take k ++ List.replicate (hs.length - k) (⟨0, 0, 0⟩ : H3)).set k hs[k] = hs.take (k + 1) ++ List.replicate (hs.length - (k + 1)) (⟨0, 0, 0⟩ : H3) := by
  have hl : (hs.take k).length = k := by simp; omega
  rw [List.set_append_right (h := by omega), hl, Nat.sub_self, List.take_succ_eq_append_getElem hk, List.append_assoc]
  obtain ⟨m, hm⟩ : ∃ m, hs.length - k = m + 1 := ⟨hs.length - k - 1, by omega⟩
  rw [hm, List.replicate_succ, List.set_cons_zero, show hs.length - (k + 1) = m by omega]
  rfl

set_option maxHeartbeats 2000000 in
theorem toHalfS_any {hs : List H3} {A : Option Addr} {c : Nat} {w : World} (R : RL w A hs) (hl : hs.length ≤ 1048576) :
    Calls Try.prog 68 #[.slice A hs.length c] w (InsPost w.heap.size w hs) := by
  obtain ⟨i0, hi, hz0, hz1, hz2⟩ := info_parts info_half
  go_enter Try.func68, Try.ntmps68
  go_wp2_with (at_make; refine wpList_make_full _ rfl _ _ 32 rfl w.heap.size 49 i0 (.agg #[.int .i64 0, .int .i64 0, .int .i64 0]) 3 Try.underlying32 hi hz0 hz1 _ _ _ _ hs.length rfl rfl rfl rfl (by rw [hz2]; omega) (by unfold maxLen; omega) (Nat.le_refl _) ?_; intro w1 O1 hg1; rw [made3] at O1)
  have hb1 : Below w.heap.size w w1 := ⟨hg1.os, hg1.tape, hg1.output, hg1.size, fun k hk => hg1.block k hk (by simp)⟩
  have RO1 : RB w.heap.size 49 w1 (some ⟨w.heap.size, 0, none⟩) hs.length (List.replicate hs.length ⟨0, 0, 0⟩) := by
    unfold RB; rw [List.length_replicate]; exact O1
  clear O1 hg1
  go_wp2
  generalize hB : w.heap.size = B at RO1 hb1 ⊢
  go_loopw [4] (fun i wr => ∃ k : Nat, k ≤ hs.length ∧ i = .int .i64 k ∧ RB B 49 wr (some ⟨B, 0, none⟩) hs.length (hs.take k ++ List.replicate (hs.length - k) ⟨0, 0, 0⟩) ∧ Below B w wr) (fun i _ => hs.length - (intOf i).toNat)
  case atStart => exact ⟨0, Nat.zero_le _, rfl, by simpa using RO1, hb1⟩
  case round =>
    obtain ⟨k, hk, rfl, RO, hb⟩ := hrel
    have hbs := hb.size
    have hbw : Below w.heap.size w wr := by rw [hB]; exact hb
    have hBs : B ≤ wr.heap.size := by omega
    have hfl : (hs.take k ++ List.replicate (hs.length - k) (⟨0, 0, 0⟩ : H3)).length = hs.length := by simp; omega
    by_cases hlt : k < hs.length
    · obtain ⟨g, o, rfl, hg, z0, z1, z2⟩ := (R.below hbw) k hlt
      obtain ⟨g6, cur6, e6, _, hgl6, hgh6, _⟩ := RO.row (by omega)
      have q6 := addr_block e6
      rw [q6] at hgh6 hgl6
      have f0 := frozen_blk (j := k * 3) hgh6
      have f1 := frozen_blk (j := k * 3 + 1) hgh6
      have f2 := frozen_blk (j := k * 3 + 2) hgh6
      obtain ⟨g7, e7, _, c0, c1, c2⟩ := RO.r3.at_ (k := k) (by omega)
      have q7 := addr_block e7
      rw [q7] at c0 c1 c2
      obtain ⟨v0, c0⟩ : ∃ v, wr.cell? ⟨B, k * 3, none⟩ = some v := ⟨_, c0⟩
      obtain ⟨v1, c1⟩ : ∃ v, wr.cell? ⟨B, k * 3 + 1, none⟩ = some v := ⟨_, c1⟩
      obtain ⟨v2, c2⟩ : ∃ v, wr.cell? ⟨B, k * 3 + 2, none⟩ = some v := ⟨_, c2⟩
      clear e7 e6 q6 q7 hgh6 hbw
      have S1 := RO.set_ rfl (j := k) (by omega) hs[k]
      rw [fill_set hlt] at S1
      have HS1 := Lib.hid S1
      clear S1
      clear R hB
      go_wp2_with ((go_at_call 23; (first | (with_reducible refine (calls_ov2 (toHalf_any hs[k] _)).mono ?_) | refine (calls_ov (toHalf_any hs[k] _)).mono ?_); rintro e w' ⟨rfl, x, rfl⟩))
      go_roundw
      case rel => exact ⟨k + 1, by omega, by go_num, HS1.out.1.below (by repeat (first | exact bR | refine bO ?_ | refine bA ?_ | refine bS ?_ | refine bD ?_ | refine bN ?_)), (by repeat (first | exact HS1.out.2 hb | refine bO ?_ | refine bA ?_ | refine bS ?_ | refine bD ?_ | refine bN ?_))⟩
      case measure => simp [intOf] <;> omega
    · obtain rfl : k = hs.length := by omega
      rw [List.take_length, Nat.sub_self, List.replicate_zero, List.append_nil] at RO
      go_wp2
      go_ret
      exact ⟨some ⟨B, 0, none⟩, hs.length, rfl, by rw [hB]; exact RO, by rw [hB]; exact hb⟩
theorem toRegion_any {hs : List H3} {A : Option Addr} {c : Nat} {w : World} (R : RL w A hs) (hl : hs.length ≤ 1048576) :
    Calls Try.prog 31 #[.agg #[.slice A hs.length c]] w (RegOut w hs) := by
  have hb0 : Below w.heap.size w (((w.alloc (.cells #[.slice A hs.length c] 25)).alloc (.cells #[.slice none 0 0] 34)).alloc (.cells #[.slice none 0 0] 34)) := (by repeat (first | exact bR | refine bO ?_ | refine bA ?_ | refine bS ?_ | refine bD ?_ | refine bN ?_))
  go_enter Try.func31, Try.ntmps31
  go_wp2_with fail
  refine (toHalfS_any (R.below hb0) hl).mono ?_
  rintro e w1 ⟨A1, c1, rfl, R1, hb1⟩
  have hbw : Below w.heap.size w w1 := hb0.trans (hb1.mono (by simp; omega))
  have HX := Lib.hid ((hb1.block (w.heap.size + 1) (by simp)).trans ((heap_old_at (by simp)).trans (heap_new_at (r := some (.cells #[.slice none 0 0] 34 (0, 0))) (by simp) rfl)))
  have HY := Lib.hid ((hb1.block (w.heap.size + 1 + 1) (by simp)).trans (heap_new_at (r := some (.cells #[.slice none 0 0] 34 (0, 0))) (by simp) rfl))
  have x2 := cell_blk (j := 0) (v := .slice none 0 0) HX.out rfl
  have f2 := frozen_blk (j := 0) HX.out
  have l2 := (Array.getElem?_eq_some_iff.1 HX.out).1
  have y2 := cell_blk (j := 0) (v := .slice none 0 0) HY.out rfl
  have g2 := frozen_blk (j := 0) HY.out
  have m2 := (Array.getElem?_eq_some_iff.1 HY.out).1
  have R1' := R1.weak (B' := w.heap.size) (by simp; omega)
  clear R1 hb1
  go_wp2
  have O1 : RB w.heap.size 49 ((w1.setCell ⟨w.heap.size + 1 + 1, 0, none⟩ (.slice A1 hs.length c1)).setCell ⟨w.heap.size + 1, 0, none⟩ (.slice A1 hs.length c1)) A1 c1 hs := (R1'.set_box HY.out (by decide)).set_box ((heap_setCell_other _ _ _ _ (by simp)).trans HX.out) (by decide)
  refine bodyPost_ret (v := .agg #[.slice A1 hs.length c1]) (by simp [results, Try.results31, go_sem, x2, l2, y2, m2, f2, g2]) rfl ⟨A1, c1, rfl, O1, ?_⟩
  exact (hbw.setCell (by simp; omega) _).setCell (by simp) _

theorem eqHalf_same (g : H3) (w : World) :
    Calls Try.prog 109 #[.agg #[.int .i64 g.a, .int .i64 g.b, .int .i64 g.c], .agg #[.int .i64 g.a, .int .i64 g.b, .int .i64 g.c]] w fun e w' => e = .returned (.bool true) ∧ Below w.heap.size w w' := by
  go_enter Try.func109, Try.ntmps109
  go_wp2
  go_ret
  exact ⟨rfl, (by repeat (first | exact bR | refine bO ?_ | refine bA ?_ | refine bS ?_ | refine bD ?_ | refine bN ?_))⟩
set_option maxHeartbeats 1000000 in
theorem eqHalfS_same {xs : List H3} {A1 A2 : Option Addr} {c1 c2 : Nat} {w : World} (R1 : R3 49 w A1 c1 xs) (R2 : R3 49 w A2 c2 xs) (hx : xs.length ≤ 1000000000) :
    Calls Try.prog 72 #[.slice A1 xs.length c1, .slice A2 xs.length c2] w fun e w' => e = .returned (.bool true) ∧ Below w.heap.size w w' := by
  go_enter Try.func72, Try.ntmps72
  go_wp2
  go_loopw [5] (fun i wr => ∃ k : Nat, k ≤ xs.length ∧ i = .int .i64 k ∧ Below w.heap.size w wr) (fun i _ => xs.length - (intOf i).toNat)
  case atStart => exact ⟨0, Nat.zero_le _, rfl, Below.refl _ _⟩
  case round =>
    obtain ⟨k, hk, rfl, hb⟩ := hrel
    have hbs := hb.size
    by_cases hlt : k < xs.length
    · obtain ⟨g1, rfl, hg1, z0, z1, z2⟩ := (R1.below hb).at_ hlt
      obtain ⟨g2, rfl, hg2, y0, y1, y2⟩ := (R2.below hb).at_ hlt
      go_wp2
      ((first | (with_reducible refine wp_region_calm2 (by kernel_rfl) (by kernel_rfl) ?_) | refine wp_region_calm (by kernel_rfl) (by kernel_rfl) ?_); (repeat (go_big_quiet_step (first | (go_at_call 109; exact calm_below (eqHalf_same xs[k] _))))); refine wpQuiet_nil ?_; rintro _ ⟨y, rfl⟩)
      go_wp2
      go_roundw
      case rel => exact ⟨k + 1, by omega, by go_num, (by repeat (first | exact hb | refine bO ?_ | refine bA ?_ | refine bS ?_ | refine bD ?_ | refine bN ?_))⟩
      case measure => simp [intOf] <;> omega
    · obtain rfl : k = xs.length := by omega
      go_wp2
      go_ret
      exact ⟨rfl, hb⟩
theorem eqRegion_same {xs : List H3} {A1 A2 : Option Addr} {c1 c2 : Nat} {w : World} (R1 : R3 49 w A1 c1 xs) (R2 : R3 49 w A2 c2 xs) (hx : xs.length ≤ 1000000000) :
    Calls Try.prog 33 #[.agg #[.slice A1 xs.length c1], .agg #[.slice A2 xs.length c2]] w fun e w' => e = .returned (.bool true) ∧ Below w.heap.size w w' := by
  go_enter Try.func33, Try.ntmps33
  go_wp2_with ((go_at_call 72; (first | (with_reducible refine (calls_ov2 (eqHalfS_same (R3.alloc (R3.alloc R1 _) _) (R3.alloc (R3.alloc R2 _) _) hx)).mono ?_) | refine (calls_ov (eqHalfS_same (R3.alloc (R3.alloc R1 _) _) (R3.alloc (R3.alloc R2 _) _) hx)).mono ?_); rintro e w' ⟨rfl, x, rfl⟩))
  go_ret
  exact ⟨rfl, (by repeat (first | exact bR | refine bO ?_ | refine bA ?_ | refine bS ?_ | refine bD ?_ | refine bN ?_))⟩

/-- The marks: numbers from k on. -/
def marks (k : Int) : Nat → List H3
  | 0 => []
  | n + 1 => marks k n ++ [⟨k + n * 3, k + n * 3 + 1, k + n * 3 + 2⟩]
theorem marks_length (k : Int) : ∀ n, (marks k n).length = n
  | 0 => rfl
  | n + 1 => by simp [marks, marks_length k n]
theorem marks_get (k : Int) : ∀ n i (h : i < (marks k n).length), (marks k n)[i] = ⟨k + i * 3, k + i * 3 + 1, k + i * 3 + 2⟩
  | 0, i, h => by simp [marks] at h
  | n + 1, i, h => by
    by_cases hi : i < (marks k n).length
    · simp only [marks]
      rw [List.getElem_append_left hi]; exact marks_get k n i hi
    · have hl := marks_length k n
      have : i = n := by simp [marks] at h; omega
      subst this
      simp only [marks]
      rw [List.getElem_append_right (by omega)]
      simp [hl]
theorem mark_set {xs : List H3} {k : Nat} {b : Int} (hk : k < xs.length) : (marks b k ++ xs.drop k).set k ⟨b + k * 3, b + k * 3 + 1, b + k * 3 + 2⟩ = marks b (k + 1) ++ xs.drop (k + 1) := by
  have hl := marks_length b k
  rw [List.set_append_right (h := by omega), hl, Nat.sub_self, List.drop_eq_getElem_cons hk, List.set_cons_zero]
  simp [marks]
end Go.Proofs.Ytgdleimdenbnlaa

set_option linter.unusedSimpArgs false
set_option linter.unusedVariables false
set_option linter.unusedSectionVars false
namespace Go.Proofs.Ytgdleimdenbnlaa
open Go.ChangeShapes Go.WideShapes Go.ChangeAt Go.RowKit Go.Joins

theorem grownBy_set {w wr : World} {g i : Nat} {v : Value} (h : w.grownBy wr (some g)) : w.grownBy (wr.setCell ⟨g, i, none⟩ v) (some g) :=
  ⟨h.os, h.tape, h.output, by simpa using h.size, fun k hk hne => (heap_setCell_other _ _ _ _ (fun e => hne (by rw [e]))).trans (h.block k hk hne)⟩
theorem grownBy_ov {w wr : World} {o : Option Nat} (x : More) (h : w.grownBy wr o) : w.grownBy (ov wr x) o :=
  ⟨h.os, h.tape, h.output, Nat.le_trans h.size (by rw [ov_size]; omega), fun k hk hne => (ov_block _ x (Nat.lt_of_lt_of_le hk h.size)).trans (h.block k hk hne)⟩
theorem grownBy_of_below {w wr : World} {o : Option Nat} (h : Below w.heap.size w wr) : w.grownBy wr o := ⟨h.os, h.tape, h.output, h.size, fun k hk _ => h.block k hk⟩

set_option maxHeartbeats 2000000 in
theorem markHalfS_any {B : Nat} {xs : List H3} {A : Option Addr} {c : Nat} {w : World} {kk : Int} (RO0 : RB B 49 w A c xs) (hl : xs.length ≤ 1048576) (hkk : 0 ≤ kk ∧ kk ≤ 1000000000000) :
    Calls Try.prog 74 #[.slice A xs.length c, .int .i64 kk] w fun e w' => e = .returned (.int .i64 (kk + xs.length * 3)) ∧ RB B 49 w' A c (marks kk xs.length) ∧ w.grownBy w' (Value.slice A xs.length c).ownBlock := by
  go_enter Try.func74, Try.ntmps74
  go_wp2
  go_loopw [1, 5] (fun ki i wr => ∃ j : Nat, j ≤ xs.length ∧ i = .int .i64 j ∧ ki = .int .i64 (kk + j * 3) ∧ RB B 49 wr A c (marks kk j ++ xs.drop j) ∧ w.grownBy wr (Value.slice A xs.length c).ownBlock) (fun _ i _ => xs.length - (intOf i).toNat)
  case atStart => exact ⟨0, Nat.zero_le _, rfl, by simp, by simpa [marks] using RO0, ⟨rfl, rfl, rfl, Nat.le_refl _, fun _ _ _ => rfl⟩⟩
  case round =>
    obtain ⟨k, hk, rfl, rfl, RO, hb⟩ := hrel
    have hbs := hb.size
    have hfl : (marks kk k ++ xs.drop k).length = xs.length := by simp [marks_length]; omega
    by_cases hlt : k < xs.length
    · obtain ⟨g6, cur6, rfl, _, hgl6, hgh6, _⟩ := RO.row (by omega)
      have f0 := frozen_blk (j := k * 3) hgh6
      have f1 := frozen_blk (j := k * 3 + 1) hgh6
      have f2 := frozen_blk (j := k * 3 + 2) hgh6
      obtain ⟨g7, e7, _, c0, c1, c2⟩ := RO.r3.at_ (k := k) (by omega)
      have q7 := addr_block e7
      rw [q7] at c0 c1 c2
      obtain ⟨v0, c0⟩ : ∃ v, wr.cell? ⟨g6, k * 3, none⟩ = some v := ⟨_, c0⟩
      obtain ⟨v1, c1⟩ : ∃ v, wr.cell? ⟨g6, k * 3 + 1, none⟩ = some v := ⟨_, c1⟩
      obtain ⟨v2, c2⟩ : ∃ v, wr.cell? ⟨g6, k * 3 + 2, none⟩ = some v := ⟨_, c2⟩
      clear e7 q7 hgh6
      have S1 := RO.set_ rfl (j := k) (by omega) ⟨kk + k * 3, kk + k * 3 + 1, kk + k * 3 + 2⟩
      rw [mark_set hlt] at S1
      simp only [show kk + (k : Int) * 3 + 2 = kk + (k : Int) * 3 + 1 + 1 by omega] at S1
      have HS1 := Lib.hid S1
      have HG : w.grownBy wr (some g6) := by simpa [Value.ownBlock] using hb
      have HG2 := Lib.hid (grownBy_set (i := k * 3 + 2) (v := .int .i64 (kk + k * 3 + 1 + 1)) (grownBy_set (i := k * 3 + 1) (v := .int .i64 (kk + k * 3 + 1)) (grownBy_set (i := k * 3) (v := .int .i64 (kk + k * 3)) HG)))
      clear S1 RO0 RO hb HG
      go_wp2
      go_roundw
      case rel => exact ⟨k + 1, by omega, by go_num, by simp; omega, HS1.out.1, by simpa [Value.ownBlock] using HG2.out⟩
      case measure => simp [intOf] <;> omega
    · obtain rfl : k = xs.length := by omega
      rw [List.drop_length, List.append_nil] at RO
      go_wp2
      go_ret
      exact ⟨rfl, RO, hb⟩
theorem markRegion_any {B : Nat} {xs : List H3} {A : Option Addr} {c : Nat} {w : World} {kk : Int} (RO0 : RB B 49 w A c xs) (hl : xs.length ≤ 1048576) (hkk : 0 ≤ kk ∧ kk ≤ 1000000000000) :
    Calls Try.prog 35 #[.agg #[.slice A xs.length c], .int .i64 kk] w fun e w' => e = .returned (.int .i64 (kk + xs.length * 3)) ∧ RB B 49 w' A c (marks kk xs.length) ∧ w.grownBy w' (Value.slice A xs.length c).ownBlock := by
  go_enter Try.func35, Try.ntmps35
  go_wp2_with fail
  refine (markHalfS_any (RO0.below (by repeat (first | exact bR | refine bO ?_ | refine bA ?_ | refine bS ?_ | refine bD ?_ | refine bN ?_))) hl hkk).mono ?_
  rintro e w1 ⟨rfl, R1, hg⟩
  have hg' : w.grownBy w1 (Value.slice A xs.length c).ownBlock := ⟨hg.os, hg.tape, hg.output, by have := hg.size; simp at this; omega, fun k hk hne => (hg.block k (by simp; omega) hne).trans (heap_old_at hk)⟩
  clear hg
  go_wp2
  go_ret
  exact ⟨rfl, R1, hg'⟩

set_option maxHeartbeats 2000000 in
theorem heldHalfS_any {n : Nat} {A : Option Addr} {c : Nat} {w : World} (R : R3 49 w A c (marks 1 n)) (hl : n ≤ 1048576) :
    Calls Try.prog 85 #[.slice A n c, .int .i64 1] w fun e w' => e = .returned (.int .i64 (1 + n * 3)) ∧ Below w.heap.size w w' := by
  have ml := marks_length 1 n
  go_enter Try.func85, Try.ntmps85
  go_wp2
  go_loopw [1, 5] (fun kk i wr => ∃ j : Nat, j ≤ n ∧ i = .int .i64 j ∧ kk = .int .i64 (1 + j * 3) ∧ Below w.heap.size w wr) (fun _ i _ => n - (intOf i).toNat)
  case atStart => exact ⟨0, Nat.zero_le _, rfl, rfl, Below.refl _ _⟩
  case round =>
    obtain ⟨k, hk, rfl, rfl, hb⟩ := hrel
    have hbs := hb.size
    by_cases hlt : k < n
    · obtain ⟨g7, rfl, hg, c0, c1, c2⟩ := (R.below hb).at_ (k := k) (by omega)
      rw [marks_get 1 n k (by omega)] at c0 c1 c2
      simp only at c0 c1 c2
      have z1 : ((1 + (k : Int) * 3) != 1 + (k : Int) * 3) = false := by simp
      clear R
      go_wp2
      go_roundw
      case rel => exact ⟨k + 1, by omega, by go_num, by simp; omega, (by repeat (first | exact hb | refine bO ?_ | refine bA ?_ | refine bS ?_ | refine bD ?_ | refine bN ?_))⟩
      case measure => simp [intOf] <;> omega
    · obtain rfl : k = n := by omega
      go_wp2
      go_ret
      exact ⟨rfl, hb⟩
theorem heldRegion_any {n : Nat} {A : Option Addr} {c : Nat} {w : World} (R : R3 49 w A c (marks 1 n)) (hl : n ≤ 1048576) :
    Calls Try.prog 41 #[.agg #[.slice A n c], .int .i64 1] w fun e w' => e = .returned (.int .i64 (1 + n * 3)) ∧ Below w.heap.size w w' := by
  go_enter Try.func41, Try.ntmps41
  go_wp2_with ((go_at_call 85; (first | (with_reducible refine (calls_ov2 (heldHalfS_any (R3.alloc R _) hl)).mono ?_) | refine (calls_ov (heldHalfS_any (R3.alloc R _) hl)).mono ?_); rintro e w' ⟨rfl, x, rfl⟩))
  go_ret
  exact ⟨rfl, (by repeat (first | exact bR | refine bO ?_ | refine bA ?_ | refine bS ?_ | refine bD ?_ | refine bN ?_))⟩
end Go.Proofs.Ytgdleimdenbnlaa

set_option linter.unusedSimpArgs false
set_option linter.unusedVariables false
set_option linter.unusedSectionVars false
namespace Go.Proofs.Ytgdleimdenbnlaa
open Go.ChangeShapes Go.WideShapes Go.ChangeAt Go.RowKit Go.Joins

section
variable {P : Program} {ops : Array Oper} {Q : Exit → Act → World → Prop} {w0 w w' : World} {Rs : List RD} {vs : Nat → Value} {i : Nat} {a a' : Act} {o : Oper} {r : List Oper} {dst : Option Tmp}
theorem needOf_at {n : List Nat} {d : RD} (hr : Rs[i]? = some d) (hn : d.need = n) : needOf Rs i = n := by unfold needOf; rw [hr]; exact hn
/-- An operation with one value, where earlier ones met their relations. -/
theorem wpRel_purn {n : List Nat} {c : Value} {dst : Option Tmp} (hr : Rs[i]? = some (.pur n c)) (hd : o.dst = dst) (h1 : ∀ x, (∀ j ∈ n, holds w0 Rs vs j (ov w0 x)) → wpList P ops (relEnd Rs vs w0 i dst a (ov w0 x)) [o] a (ov w0 x)) (h2 : wpRel P ops Q w0 Rs vs (i + 1) r (a.put dst c)) : wpRel P ops Q w0 Rs vs i (o :: r) a := by
  subst hd
  have hv : vv Rs vs i = c := by unfold vv; rw [hr]
  subst hv
  refine ⟨fun w' ⟨x, hx⟩ hh => ?_, h2⟩
  subst hx
  rw [needOf_at hr rfl] at hh
  exact h1 x hh
theorem wpRelE_nilB0 (h : ∀ w', Below w0.heap.size w0 w' → (∀ j, holds w0 Rs vs j w') → Q .normal a w') : wpRel P ops Q w0 Rs vs i [] a :=
  fun w' ⟨x, hx⟩ hh => h w' (by subst hx; exact below_ov _ _ (Below.refl _ _) (Nat.le_refl _)) hh
/-- An operation that leaves a value of its own making, from such values. -/
theorem wpRel_own {n : List Nat} {k : Nat} {dst : Option Tmp} {G : World → Value → World → Prop} (hr : Rs[i]? = some (.rel n [k] false (IsOw G))) (hki : k = i) (hd : o.dst = dst) (h1 : ∀ x, (∀ j ∈ n, holds w0 Rs vs j (ov w0 x)) → wpList P ops (relEnd Rs vs w0 i dst a (ov w0 x)) [o] a (ov w0 x)) (h2 : wpRel P ops Q w0 Rs vs (i + 1) r (a.put dst (vs k))) : wpRel P ops Q w0 Rs vs i (o :: r) a := by
  subst hki hd
  refine wpRel_cons (fun w' hw hh => ?_) ?_
  · obtain ⟨x, rfl⟩ := hw
    rw [needOf_at hr rfl] at hh
    exact h1 x hh
  · rw [vv_rel hr]; exact h2
end
def GReg (xs : List H3) (w0 : World) (v : Value) (w : World) : Prop := ∃ A c, v = .agg #[.slice A xs.length c] ∧ RB w0.heap.size 49 w A c xs
def GTup (xs : List H3) (ok : Bool) (w0 : World) (v : Value) (w : World) : Prop := ∃ A c, v = .tuple #[.agg #[.slice A xs.length c], .bool ok] ∧ RB w0.heap.size 49 w A c xs
theorem RB.set_row {B b : Nat} {E T : TypeId} {w : World} {A : Option Addr} {c : Nat} {xs : List H3} {cur arr : Array Value} {fr : Nat × Nat} (h : RB B E w A c xs) (hb : w.heap[b]? = some (.cells cur T fr)) (hT : T ≠ E) : RB B E (w.setRow b arr) A c xs := by
  refine ⟨h.1, ?_⟩
  rcases h.2 with e | ⟨g, cap, cu, e1, hg, hh, hr⟩
  · exact .inl e
  · refine .inr ⟨g, cap, cu, e1, hg, ?_, hr⟩
    rw [setRow_other]
    · exact hh
    · rintro rfl
      rw [hh] at hb
      injection hb with hb; injection hb with _ hb; exact hT hb.symm
theorem owned_reg (xs : List H3) : Owned 34 (GReg xs) :=
  ⟨fun w0 v w x ⟨A, c, e, R⟩ => ⟨A, c, e, R.below (below_ov _ _ (Below.refl _ _) (Nat.le_refl _))⟩, fun w0 v w b cur arr hb hs ⟨A, c, e, R⟩ => ⟨A, c, e, R.set_row hb (by decide)⟩⟩
theorem owned_tup (xs : List H3) (ok : Bool) : Owned 34 (GTup xs ok) :=
  ⟨fun w0 v w x ⟨A, c, e, R⟩ => ⟨A, c, e, R.below (below_ov _ _ (Below.refl _ _) (Nat.le_refl _))⟩, fun w0 v w b cur arr hb hs ⟨A, c, e, R⟩ => ⟨A, c, e, R.set_row hb (by decide)⟩⟩
theorem reg_cells (A : Option Addr) (n c : Nat) : (Value.agg #[.slice A n c]).cells.size = 1 ∧ ∀ x ∈ (Value.agg #[.slice A n c]).cells.toList, x.oneCell' = true := ⟨rfl, by simp [Value.cells, Value.oneCell']⟩

/-- Two rows in different blocks. -/
def Apart (A A' : Option Addr) : Prop := ∀ k, A = some ⟨k, 0, none⟩ → A' ≠ some ⟨k, 0, none⟩
theorem RB.ad {B : Nat} {E : TypeId} {w : World} {A : Option Addr} {c : Nat} {xs : List H3} (h : RB B E w A c xs) : ∀ k, A = some ⟨k, 0, none⟩ → B ≤ k ∧ k < w.heap.size := fun k hk => h.lt k (by subst hk; rfl)
theorem apart_new {B B' : Nat} {E E' : TypeId} {W W' : World} {A A' : Option Addr} {c c' : Nat} {xs ys : List H3} (h : RB B E W A c xs) (h2 : RB B' E' W' A' c' ys) (hB : W.heap.size ≤ B') : Apart A A' := fun k h1 h3 => by
  have := (h.ad k h1).2
  have := (h2.ad k h3).1
  omega
theorem Apart.symm {A A' : Option Addr} (h : Apart A A') : Apart A' A := fun k h1 h2 => h k h2 h1
theorem RB.form {B : Nat} {E : TypeId} {w : World} {A : Option Addr} {c : Nat} {xs : List H3} (h : RB B E w A c xs) : A = none ∨ ∃ g, A = some ⟨g, 0, none⟩ := by
  rcases h.2 with ⟨e, _⟩ | ⟨g, cap, cur, e, _⟩
  · injection e with e; exact .inl e
  · injection e with e; exact .inr ⟨g, e⟩
theorem own_of {A : Option Addr} {n c k : Nat} (h : (Value.slice A n c).ownBlock = some k) : ∃ o s, A = some ⟨k, o, s⟩ := by
  cases A with
  | none => cases h
  | some a => obtain ⟨g, o, s⟩ := a; injection h with h; subst h; exact ⟨o, s, rfl⟩
theorem RB.grown {B B1 n c1 c2 : Nat} {E E1 : TypeId} {w w' w1 : World} {A A1 : Option Addr} {c : Nat} {xs ys : List H3} (h : RB B E w A c xs) (h1 : RB B1 E1 w1 A1 c2 ys) (hg : w.grownBy w' (Value.slice A1 n c1).ownBlock) (hne : Apart A1 A) : RB B E w' A c xs := by
  refine ⟨h.1, ?_⟩
  rcases h.2 with e | ⟨g, cap, cu, e1, hgB, hh, hr⟩
  · exact .inl e
  · refine .inr ⟨g, cap, cu, e1, hgB, ?_, hr⟩
    refine (hg.block g (Array.getElem?_eq_some_iff.1 hh).1 fun e => ?_).trans hh
    injection e1 with e1
    subst e1
    obtain ⟨o, s, e2⟩ := own_of e.symm
    rcases h1.form with e3 | ⟨g', e3⟩
    · rw [e3] at e2; cases e2
    · have e4 := e3
      rw [e2] at e3
      injection e3 with e3
      injection e3 with e5 _
      subst e5
      exact hne g e4 rfl
theorem box_below {W W' : World} {b : Nat} {o : Obj} (h : Hid (W.heap[b]? = some o)) (K : Below W.heap.size W W') : Hid (W'.heap[b]? = some o) := Lib.hid ((K.block b (Array.getElem?_eq_some_iff.1 h.out).1).trans h.out)
theorem box_grown {W W' : World} {b n c : Nat} {A : Option Addr} {o : Obj} (h : Hid (W.heap[b]? = some o)) (K : W.grownBy W' (Value.slice A n c).ownBlock) (hne : some b ≠ (Value.slice A n c).ownBlock) : Hid (W'.heap[b]? = some o) := Lib.hid ((K.block b (Array.getElem?_eq_some_iff.1 h.out).1 hne).trans h.out)
theorem grown_pre {W E W' : World} {o : Option Nat} (h : Below W.heap.size W E) (hg : E.grownBy W' o) : W.grownBy W' o :=
  ⟨hg.os.trans h.os, hg.tape.trans h.tape, hg.output.trans h.output, Nat.le_trans h.size hg.size, fun k hk hne => (hg.block k (Nat.lt_of_lt_of_le hk h.size) hne).trans (h.block k hk)⟩
end Go.Proofs.Ytgdleimdenbnlaa
