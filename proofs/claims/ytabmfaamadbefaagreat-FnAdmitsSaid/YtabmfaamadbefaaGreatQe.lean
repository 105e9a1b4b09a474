/- Several texts in one: Qp, Qe. Each says its own conditions. -/
import Derived.Test.YtabmfaamadbefaaGreatQa
import Derived.Test.YtabmfaamadbefaaGreatQz
/- Plain: robust part, region before, region kept, call by call. No program. -/
set_option linter.unusedVariables false
set_option linter.unusedSimpArgs false
set_option linter.unusedSectionVars false
namespace Go.Proofs.YtabmfaamadbefaaGreat
open Go.RowKit
theorem thenL_congr {x : List H3 × Bool} {F G : List H3 → List H3 × Bool} (h : ∀ a, x = (a, true) → F a = G a) : thenL x F = thenL x G := by
  unfold thenL
  by_cases hx : x.2 = true
  · rw [if_pos hx, if_pos hx]
    exact h x.1 (by rw [← hx])
  · rw [if_neg hx, if_neg hx]
theorem thenL_ok {x : List H3 × Bool} {F : List H3 → List H3 × Bool} {out : List H3} (h : thenL x F = (out, true)) : ∃ a, x = (a, true) ∧ F a = (out, true) := by
  unfold thenL at h
  split at h
  · rename_i hx
    exact ⟨x.1, by rw [← hx], h⟩
  · simp at h
theorem growR_room {r : RoomV} (P : RoomP r) {e : List H3} (he : regionOk e = true) : growR e r.bx r.by_ r.lo r.hi = growP r e := by
  have h1 := (inR_iff (n := r.bx) (a := -100) (b := 100)).2 P.bx
  have h2 := (inR_iff (n := r.by_) (a := -100) (b := 100)).2 P.by_
  have h3 := (inR_iff (n := r.lo) (a := -1000) (b := 1000)).2 P.lo
  have h4 := (inR_iff (n := r.hi) (a := r.lo) (b := 1000)).2 P.hi
  unfold growR growP growOk rangeB
  rw [h1, h2, h3, h4, he]
  by_cases hl : e.length ≤ 38
  · rw [if_pos (by simp [hl]), if_pos hl]
  · rw [if_neg (by simp [hl]), if_neg hl]
theorem pullR_room {r : RoomV} (P : RoomP r) {g : List H3} (hg : regionOk g = true) : pullR r.m r.q g = pullM r g := by
  unfold pullR pullM
  rw [if_pos ⟨P.tk, hg⟩]
theorem preR_chain (r : RoomV) (p : List H3) : preR r p = thenL (thenL (robustR r p) (fun e => growR e r.bx r.by_ r.lo r.hi)) (pullR r.m r.q) := by
  have e1 : thenL (thenL (robustR r p) (fun e => growR e r.bx r.by_ r.lo r.hi)) (pullR r.m r.q) = thenL (thenL (robustR r p) (growP r)) (pullM r) := by
    rw [thenL_congr (G := growP r) (fun a h => growR_room (robustR_reg h).2 (robustR_reg h).1)]
    refine thenL_congr (fun g h => ?_)
    obtain ⟨e, h1, h2⟩ := thenL_ok h
    exact pullR_room (robustR_reg h1).2 (growP_ok (robustR_reg h1).1 h2)
  rw [e1]
  unfold preR preM
  by_cases hc : roomOk r = true ∧ regionOk p = true
  · rw [if_pos hc]
    unfold robustR
    rw [if_pos hc]
  · rw [if_neg hc]
    unfold robustR
    rw [if_neg hc, thenL_false (by rw [thenL_false rfl])]
theorem keepR_chain (r : RoomV) (p : List H3) : keepR r p = thenL (preR r p) (meetQ p) := by
  unfold keepR keepM preR
  by_cases hc : roomOk r = true ∧ regionOk p = true
  · rw [if_pos hc, if_pos hc]
  · rw [if_neg hc, if_neg hc, thenL_false rfl]
theorem preR_reg {r : RoomV} {p e : List H3} (h : preR r p = (e, true)) : regionOk e = true := by
  unfold preR at h
  split at h
  · exact preM_ok h
  · simp at h
theorem preR_len {r : RoomV} {p e : List H3} (h : preR r p = (e, true)) : e.length ≤ 40 := (region_good (preR_reg h)).2
theorem growR_reg {e g : List H3} {a b c d : Int} (h : growR e a b c d = (g, true)) : regionOk g = true := by
  unfold growR at h
  split at h
  · rename_i hc
    exact growM_ok (growOk_parts hc).2.2 h
  · simp at h
theorem thenL_short {x : List H3 × Bool} {F : List H3 → List H3 × Bool} (hF : ∀ a out ok, F a = (out, ok) → out.length ≤ 1000) {out : List H3} {ok : Bool} (h : thenL x F = (out, ok)) : out.length ≤ 1000 := by
  unfold thenL at h
  split at h
  · exact hF _ _ _ h
  · simp at h; rw [h.1]; simp
theorem preR_short {r : RoomV} {p out : List H3} {ok : Bool} (h : preR r p = (out, ok)) : out.length ≤ 1000 := by
  rw [preR_chain] at h
  exact thenL_short (fun _ _ _ h => pullR_short h) h
theorem meetQ_short {p q out : List H3} {ok : Bool} (h : meetQ p q = (out, ok)) : out.length ≤ 1000 := by
  unfold meetQ at h
  split at h
  · rename_i hc
    split at h
    · simp at h; rw [h.1]; simp
    · rename_i hn
      have hp : p ≠ [] := fun e => hn (.inl e)
      have hq : q ≠ [] := fun e => hn (.inr e)
      have := (meetq_few hc.1 hc.2.1 hp hq hc.2.2).2.1
      simp at h
      rw [← h.1]; omega
  · simp at h; rw [h.1]; simp
theorem keepR_short {r : RoomV} {p out : List H3} {ok : Bool} (h : keepR r p = (out, ok)) : out.length ≤ 1000 := by
  rw [keepR_chain] at h
  exact thenL_short (fun _ _ _ h => meetQ_short h) h

end Go.Proofs.YtabmfaamadbefaaGreat
/- Plain: the rounds, their results. No program. -/
set_option linter.unusedVariables false
set_option linter.unusedSimpArgs false
set_option linter.unusedSectionVars false
namespace Go.Proofs.YtabmfaamadbefaaGreat
open Go.RowKit
/-- The rounds that are left, from a region and a count. -/
def runL (F : List H3 → List H3 × Bool) : Nat → List H3 → Nat → Option (List H3 × Nat × Bool)
  | 0, p, k => some (p, k, false)
  | n + 1, p, k => if (F p).2 = true then (if (F p).1 = p then some (p, k, true) else runL F n (F p).1 (k + 1)) else none
def keptV : Option (List H3 × Nat × Bool) → (List H3 × Int × Bool) × Bool
  | some (p, k, s) => ((p, (k : Int), s), true)
  | none => (([], 0, false), false)
def runR (r : RoomV) (n : Int) : (List H3 × Int × Bool) × Bool := if roomOk r = true ∧ inR n 0 12 = true then keptV (runL (keepR r) n.toNat r.ls 0) else (([], 0, false), false)
theorem meetQ_ok {p q out : List H3} (h : meetQ p q = (out, true)) : regionOk out = true := by
  unfold meetQ at h
  split at h
  · rename_i hc
    split at h
    · simp at h; rw [h]; rfl
    · rename_i hn
      have hp : p ≠ [] := fun e => hn (.inl e)
      have hq : q ≠ [] := fun e => hn (.inr e)
      obtain ⟨G, _, e⟩ := meetq_few hc.1 hc.2.1 hp hq hc.2.2
      injection h with h _
      subst h
      exact meetR_ok G e
  · simp at h
theorem keepM_ok {r : RoomV} {p out : List H3} (h : keepM r p = (out, true)) : regionOk out = true := by
  unfold keepM at h
  obtain ⟨a, _, h2⟩ := thenL_ok h
  exact meetQ_ok h2
theorem keepR_true {r : RoomV} {p : List H3} (h : roomOk r = true) (kp : regionOk p = true) : keepR r p = keepM r p := by unfold keepR; rw [if_pos ⟨h, kp⟩]
theorem keepR_reg {r : RoomV} {p out : List H3} (h : keepR r p = (out, true)) : regionOk out = true := by
  unfold keepR at h
  split at h
  · exact keepM_ok h
  · simp at h
theorem runL_fail {F : List H3 → List H3 × Bool} {n k : Nat} {p : List H3} (hk : k < n) (h : (F p).2 = false) : runL F (n - k) p k = none := by
  rw [show n - k = (n - (k + 1)) + 1 by omega, runL, if_neg (by rw [h]; simp)]
theorem runL_same {F : List H3 → List H3 × Bool} {n k : Nat} {p : List H3} (hk : k < n) (h : F p = (p, true)) : runL F (n - k) p k = some (p, k, true) := by
  rw [show n - k = (n - (k + 1)) + 1 by omega, runL, h, if_pos rfl, if_pos rfl]
theorem runL_next {F : List H3 → List H3 × Bool} {n k : Nat} {p q : List H3} (hk : k < n) (h : F p = (q, true)) (hne : q ≠ p) : runL F (n - k) p k = runL F (n - (k + 1)) q (k + 1) := by
  rw [show n - k = (n - (k + 1)) + 1 by omega, runL, h, if_pos rfl, if_neg hne]
theorem runL_end {F : List H3 → List H3 × Bool} {n k : Nat} {p : List H3} (hk : ¬ k < n) : runL F (n - k) p k = some (p, k, false) := by
  rw [show n - k = 0 by omega, runL]
/-- What a region and a flag tell: the result, if the flag stands; the rounds that are left, if not. -/
def runS (r : RoomV) (n k : Nat) (p : List H3) (s : Bool) : Option (List H3 × Nat × Bool) := if s = true then some (p, k, true) else runL (keepR r) (n - k) p k
theorem runL_reg {F : List H3 → List H3 × Bool} (hF : ∀ a b, F a = (b, true) → regionOk b = true) : ∀ (n : Nat) (p : List H3) (k : Nat), regionOk p = true → ∀ {q k' s}, runL F n p k = some (q, k', s) → regionOk q = true
  | 0, p, k, hp, q, k', s, h => by rw [runL] at h; injection h with h; injection h with h _; rw [← h]; exact hp
  | n + 1, p, k, hp, q, k', s, h => by
    rw [runL] at h
    split at h
    · rename_i hc
      split at h
      · injection h with h; injection h with h _; rw [← h]; exact hp
      · exact runL_reg hF n _ _ (hF p _ (by rw [← hc])) h
    · cases h
theorem runR_reg {r : RoomV} {n : Int} {out : List H3} {kn : Int} {ks ok : Bool} (h : runR r n = ((out, kn, ks), ok)) : regionOk out = true := by
  unfold runR at h
  split at h
  · rename_i hc
    cases hl : runL (keepR r) n.toNat r.ls 0 with
    | none => rw [hl] at h; simp [keptV] at h; rw [h.1.1]; rfl
    | some x =>
      obtain ⟨q, k, s⟩ := x
      rw [hl] at h
      simp only [keptV, Prod.mk.injEq] at h
      rw [← h.1.1]
      exact runL_reg (fun a b => keepR_reg) _ _ _ (roomOk_parts hc.1).lk hl
  · simp at h; rw [h.1.1]; rfl
theorem runR_short {r : RoomV} {n : Int} {out : List H3} {kn : Int} {ks ok : Bool} (h : runR r n = ((out, kn, ks), ok)) : out.length ≤ 1000 := by
  have := (region_good (runR_reg h)).2
  omega
/-- How much is left of a loop whose count and flag stand in a block. -/
def keptMeas (n b : Nat) (w : World) : Nat := match w.cell? ⟨b, 1, none⟩, w.cell? ⟨b, 2, none⟩ with
  | some (.int _ k), some (.bool s) => 2 * (n - k.toNat) + (if s then 0 else 1)
  | _, _ => 0
theorem keptMeas_at {n b k : Nat} {s : Bool} {w : World} {v : Value} {T : TypeId} (h : Hid (w.heap[b]? = some (.cells #[v, .int .i64 (k : Int), .bool s] T (0, 0)))) : keptMeas n b w = 2 * (n - k) + (if s then 0 else 1) := by
  unfold keptMeas
  rw [cell_blk (j := 1) (v := .int .i64 (k : Int)) h.out rfl, cell_blk (j := 2) (v := .bool s) h.out rfl]
  simp
theorem set3_0 {w : World} {b : Nat} {T : TypeId} {a0 a1 a2 v : Value} (h : w.heap[b]? = some (.cells #[a0, a1, a2] T (0, 0))) : (w.setCell ⟨b, 0, none⟩ v).heap[b]? = some (.cells #[v, a1, a2] T (0, 0)) := by
  have := heap_setCell_same w b 0 _ T v h
  simpa using this
theorem set3_1 {w : World} {b : Nat} {T : TypeId} {a0 a1 a2 v : Value} (h : w.heap[b]? = some (.cells #[a0, a1, a2] T (0, 0))) : (w.setCell ⟨b, 1, none⟩ v).heap[b]? = some (.cells #[a0, v, a2] T (0, 0)) := by
  have := heap_setCell_same w b 1 _ T v h
  simpa using this
theorem set3_2 {w : World} {b : Nat} {T : TypeId} {a0 a1 a2 v : Value} (h : w.heap[b]? = some (.cells #[a0, a1, a2] T (0, 0))) : (w.setCell ⟨b, 2, none⟩ v).heap[b]? = some (.cells #[a0, a1, v] T (0, 0)) := by
  have := heap_setCell_same w b 2 _ T v h
  simpa using this

end Go.Proofs.YtabmfaamadbefaaGreat