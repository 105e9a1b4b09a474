/- Several texts in one: Pq, Fp, Cd, Ce, Hsp. Each says its own conditions. -/
import Derived.Test.YtabmfaamadbefaaGreatPb
import Derived.Test.YtabmfaamadbefaaGreatFr
import Derived.Test.YtabmfaamadbefaaGreatMj
import Derived.Test.YtabmfaamadbefaaGreatRt
import Derived.Test.YtabmfaamadbefaaGreatCn
import Derived.Test.YtabmfaamadbefaaGreatSf
import Derived.Test.YtabmfaamadbefaaGreatMk
/- Contracts of PullBack, of the program and of the reference. Condition: the arguments are ints. -/
set_option linter.unusedSimpArgs false
set_option linter.unusedVariables false
set_option linter.unusedSectionVars false
namespace Go.Proofs.YtabmfaamadbefaaGreat
open Go.RowKit
def pullR (m : List Int) (q : Int) (hs : List H3) : List H3 × Bool := if turnOk m q = true ∧ regionOk hs = true then movedF (pullF (m.getD 0 0) (m.getD 1 0) (m.getD 2 0) (m.getD 3 0) q) hs else ([], false)
theorem pullR_short {m : List Int} {q : Int} {hs out : List H3} {ok : Bool} (h : pullR m q hs = (out, ok)) : out.length ≤ 1000 := by
  unfold pullR at h
  split at h
  · have := movedF_short h; omega
  · simp at h; rw [h.1]; simp

set_option maxRecDepth 100000 in
set_option maxHeartbeats 4000000 in
theorem pull_eq {hs out : List H3} {ok : Bool} {a b e f q : Int} {A Am : Option Addr} {c cm : Nat} {w : World} (M : MatBd a b e f q) (RM : RI w Am [a, b, e, f]) (R : R3 44 w A c hs) (G : hs = [] ∨ ((∀ g ∈ hs, HOk g) ∧ hs.length ≤ 40)) (hr : Hid (movedF (pullF a b e f q) hs = (out, ok))) :
    Calls Tryz.prog 90 #[.agg #[.slice A hs.length c], .slice Am 4 cm, .int .i64 q] w (RegPost w out ok) := by
  have key : ∀ W b4 b5, Below w.heap.size w W → W.cell? ⟨b4, 0, none⟩ = some (.slice Am 4 cm) → W.cell? ⟨b5, 0, none⟩ = some (.int .i64 q) → b4 < W.heap.size → b5 < W.heap.size → Calls Tryz.prog 99 #[.agg #[.slice A hs.length c], .func (.func 120) #[] #[.pointer (some ⟨b4, 0, none⟩), .pointer (some ⟨b5, 0, none⟩)]] W (RegPost W out ok) := fun W b4 b5 T c4 c5 l4 l5 => by
    have hr' := hr.out
    by_cases h0 : hs = []
    · unfold movedF at hr'
      rw [if_pos h0] at hr'
      simp at hr'
      obtain ⟨rfl, rfl⟩ := hr'
      exact moved_void (Lib.hid (by rw [h0]; rfl))
    · obtain ⟨G, h40⟩ := G.resolve_left h0
      exact moved_pull M (RM.below T) c4 c5 l4 l5 G (R.below T) ⟨List.length_pos_iff.2 h0, by omega⟩ (Lib.hid hr')
  have KEY := Lib.hid key
  clear key G M
  go_enter Tryz.func90, Tryz.ntmps90
  go_wp2_with fail
  obtain ⟨W0, hW⟩ : ∃ W0, W0 = (((w.alloc (.cells #[.slice A hs.length c] 26)).alloc (.cells #[.slice Am 4 cm] 23)).alloc (.cells #[.int .i64 q] 3)).alloc (.cells #[.slice none 0 0] 26) := ⟨_, rfl⟩
  rw [← hW]
  have T0 : Below w.heap.size w W0 := by rw [hW]; exact (by repeat (first | exact bR | refine bO ?_ | refine bA ?_ | refine bS ?_ | refine bD ?_ | refine bN ?_))
  have X1 : W0.heap[w.heap.size + 1]? = some (.cells #[.slice Am 4 cm] 23 (0, 0)) := by rw [hW]; exact ((heap_old_at (by simp)).trans ((heap_old_at (by simp)).trans (heap_new_at (by simp) rfl)))
  have X2 : W0.heap[w.heap.size + 1 + 1]? = some (.cells #[.int .i64 q] 3 (0, 0)) := by rw [hW]; exact ((heap_old_at (by simp)).trans (heap_new_at (by simp) rfl))
  have X3 := Lib.hid (show W0.heap[w.heap.size + 1 + 1 + 1]? = some (.cells #[.slice none 0 0] 26 (0, 0)) by rw [hW]; exact (heap_new_at (by simp) rfl))
  refine (KEY.out W0 _ _ T0 (cell_blk (j := 0) X1 rfl) (cell_blk (j := 0) X2 rfl) (Array.getElem?_eq_some_iff.1 X1).1 (Array.getElem?_eq_some_iff.1 X2).1).mono ?_
  rintro en w2 ⟨A2', c2', rfl, R2', hb2'⟩
  have T2 : Below w.heap.size w w2 := T0.trans (hb2'.mono T0.size)
  have X4 := box_below X3 hb2'
  have HR1 := R2'.weak (B' := w.heap.size) T0.size
  have hb2 : w.heap.size ≤ w.heap.size + 1 + 1 + 1 := by omega
  clear hb2' R2' X1 X2 X3 hW T0
  generalize w.heap.size + 1 + 1 + 1 = b2 at X4 hb2 ⊢
  have x2 := cell_blk (j := 0) (v := .slice none 0 0) X4.out rfl
  have f2 := frozen_blk (j := 0) X4.out
  have l2 := (Array.getElem?_eq_some_iff.1 X4.out).1
  go_wp2
  refine bodyPost_ret (v := .tuple #[.agg #[.slice A2' out.length c2'], .bool ok]) (by simp [results, Tryz.results90, go_sem, x2, l2]) rfl ⟨A2', c2', rfl, HR1.set_box X4.out (by decide), T2.setCell (show w.heap.size ≤ b2 from hb2) _⟩

theorem turnOk_parts {m : List Int} {q : Int} (hm : turnOk m q = true) : mapOk m q = true ∧ ∃ a b e f, m = [a, b, e, f] ∧ MatBd a b e f q ∧ (a * f - b * e == 0) = false := by
  unfold turnOk at hm
  rw [Bool.and_eq_true] at hm
  obtain ⟨a, b, e, f, rfl, M⟩ := mapOk_parts hm.1
  refine ⟨hm.1, a, b, e, f, rfl, M, ?_⟩
  have h2 : (a * f - b * e != 0) = true := hm.2
  simpa using h2

end Go.Proofs.YtabmfaamadbefaaGreat
/- Plain: a spot lies in a made region exactly if all half planes hold at it; what FnPulled says of a region pulled back. No program. -/
set_option linter.unusedSimpArgs false
set_option linter.unusedVariables false
set_option linter.unusedSectionVars false
namespace Go.Proofs.YtabmfaamadbefaaGreat
open Go.RowKit
theorem in_side {h s : H3} (hd : 0 < s.c) : In h (ptOf (s.a, s.b, s.c)) ↔ sideI h s ≤ 0 := by
  rw [in_ptOf h (p := (s.a, s.b, s.c)) hd]
  unfold sideI
  simp only
  omega
theorem made_edges {hs : List H3} (ok : ∀ g ∈ hs, HOk g) (hne : makeR hs ≠ []) : (∀ x, x ∈ makeR hs ↔ x ∈ sorted4 hs ∧ Edge (sorted4 hs) x) ∧ ¬ Void (sorted4 hs) ∧ ∃ e ∈ sorted4 hs, Edge (sorted4 hs) e := by
  have G := good_sorted ok
  have eP := makeE_some (L := sorted4 hs) hne
  have eP' : makeR hs = pickE (sorted4 hs) (sorted4 hs).length := eP
  have mP : ∀ x, x ∈ makeR hs ↔ x ∈ sorted4 hs ∧ Edge (sorted4 hs) x := fun x => by rw [eP']; exact pick_mem G x
  have l3 : ¬ (makeR hs).length < 3 := fun h => by
    rw [eP'] at h
    exact hne (if_pos h)
  refine ⟨mP, fun v => ?_, ?_⟩
  · have := void_few G v
    rw [← eP'] at this; exact l3 this
  · obtain ⟨x, hx⟩ := List.exists_mem_of_ne_nil _ hne
    exact ⟨x, (mP x).1 hx⟩
theorem made_inside {hs : List H3} (ok : ∀ g ∈ hs, HOk g) (hne : makeR hs ≠ []) {x : Pt} : (∀ e ∈ makeR hs, In e x) ↔ Inside (hs ++ frameH) x := by
  obtain ⟨mP, nv, ne⟩ := made_edges ok hne
  rw [← inside_sorted ok]
  constructor
  · intro h
    exact edges_inside (good_sorted ok) nv ne (fun e he ee => h e ((mP e).2 ⟨he, ee⟩))
  · intro h g hg
    exact h g ((mP g).1 hg).1
theorem hasL_iff {hs : List H3} {s : H3} : hasL hs s = true ↔ hs ≠ [] ∧ ∀ h ∈ hs, sideI h s ≤ 0 := by
  unfold hasL
  simp only [Bool.and_eq_true, decide_eq_true_eq, List.all_eq_true]
/-- A spot lies in a made region exactly if all half planes hold at it. -/
theorem has_made {hs : List H3} {s : H3} (ok : ∀ g ∈ hs, HOk g) (hne : makeR hs ≠ []) (hd : 0 < s.c) : hasL (makeR hs) s = true ↔ ∀ h ∈ hs ++ frameH, sideI h s ≤ 0 := by
  rw [hasL_iff]
  have e := made_inside ok hne (x := ptOf (s.a, s.b, s.c))
  constructor
  · intro h g hg
    exact (in_side hd).1 (e.1 (fun e' he' => (in_side hd).2 (h.2 e' he')) g hg)
  · intro h
    refine ⟨hne, fun g hg => (in_side hd).1 (e.2 (fun e' he' => (in_side hd).2 (h e' he')) g hg)⟩
theorem in_frame {s : H3} (hf : -1000 * s.c ≤ s.a ∧ s.a ≤ 1000 * s.c ∧ -1000 * s.c ≤ s.b ∧ s.b ≤ 1000 * s.c) : ∀ h ∈ frameH, sideI h s ≤ 0 := by
  intro h hh
  simp only [frameH, List.mem_cons, List.not_mem_nil, or_false] at hh
  rcases hh with rfl | rfl | rfl | rfl <;> (unfold sideI; simp only; omega)
theorem half_scale {a b c : Int} {g : H3} (h : halfOf a b c = (g, true)) : ∃ k : Nat, 0 < k ∧ a = g.a * k ∧ b = g.b * k ∧ c = g.c * k := by
  unfold halfOf at h
  split at h
  · injection h with _ h; cases h
  · rename_i hb
    split at h
    · injection h with h _
      subst h
      obtain ⟨h1, h2, h3⟩ := gcdL3_dvd a b c
      by_cases hz : a = 0 ∧ b = 0 ∧ c = 0
      · obtain ⟨rfl, rfl, rfl⟩ := hz
        exact ⟨1, by omega, by simp, by simp, by simp⟩
      · obtain ⟨k, x, y, z, e, k0, ea, eb, ec, qa, qb, qc⟩ := gcd3_parts hz
        exact ⟨k, k0, by simp only [e, qa]; exact ea, by simp only [e, qb]; exact eb, by simp only [e, qc]; exact ec⟩
    · injection h with _ h; cases h
theorem spot_scale {x y d a b c : Int} (hd : 0 < d) (h : spotOf x y d = ((a, b, c), true)) : ∃ k : Nat, 0 < k ∧ x = a * k ∧ y = b * k ∧ d = c * k := by
  unfold spotOf at h
  split at h
  · injection h with _ h; cases h
  · split at h
    · injection h with h _
      obtain ⟨k, p, q, r, e, k0, ea, eb, ec, qa, qb, qc, _, _⟩ := reduced (x := x) (y := y) hd
      rw [e, qa, qb, qc] at h
      simp only [Prod.mk.injEq] at h
      obtain ⟨rfl, rfl, rfl⟩ := h
      exact ⟨k, k0, ea, eb, ec⟩
    · injection h with _ h; cases h
theorem scale_le {n : Int} {k : Nat} (hk : 0 < k) : n * (k : Int) ≤ 0 ↔ n ≤ 0 := by
  constructor
  · intro h
    rcases Int.lt_or_le 0 n with q | q
    · have := Int.mul_pos q (show (0 : Int) < k by omega); omega
    · exact q
  · intro h
    exact Int.mul_nonpos_of_nonpos_of_nonneg h (by omega)
/-- A half plane pulled back holds at a spot exactly if it holds where the spot is mapped to. -/
theorem pull_side {a b e f q x y d X Y D : Int} {g g' : H3} (hq : 0 < q) (hd : 0 < d) (hp : pullF a b e f q g = (g', true)) (hs : spotOf (a * x + b * y) (e * x + f * y) (q * d) = ((X, Y, D), true)) : sideI g' ⟨x, y, d⟩ ≤ 0 ↔ sideI g ⟨X, Y, D⟩ ≤ 0 := by
  unfold pullF at hp
  obtain ⟨k, k0, ea, eb, ec⟩ := half_scale hp
  obtain ⟨m, m0, fx, fy, fd⟩ := spot_scale (Int.mul_pos hq hd) hs
  rw [← scale_le (n := sideI g' ⟨x, y, d⟩) k0, ← scale_le (n := sideI g ⟨X, Y, D⟩) m0]
  have : sideI g' ⟨x, y, d⟩ * (k : Int) = sideI g ⟨X, Y, D⟩ * (m : Int) := by
    unfold sideI
    simp only
    have l : (g'.a * x + g'.b * y - g'.c * d) * (k : Int) = (g'.a * k) * x + (g'.b * k) * y - (g'.c * k) * d := by grind
    have r : (g.a * X + g.b * Y - g.c * D) * (m : Int) = g.a * (X * m) + g.b * (Y * m) - g.c * (D * m) := by grind
    rw [l, r, ← ea, ← eb, ← ec, ← fx, ← fy, ← fd]
    grind
  rw [this]
/-- What FnPulled says of a spot within the frame. -/
theorem pulled_has {m : List Int} {q x y X Y D : Int} {p b : List H3} (hq : 0 < q) (kp : regionOk p = true) (hpl : pullR m q p = (b, true)) (hx : -40 ≤ x ∧ x ≤ 40) (hy : -40 ≤ y ∧ y ≤ 40) (hs : spotOf (m.getD 0 0 * x + m.getD 1 0 * y) (m.getD 2 0 * x + m.getD 3 0 * y) (q * 1) = ((X, Y, D), true)) (hne : b ≠ []) : hasL b ⟨x, y, 1⟩ = hasL p ⟨X, Y, D⟩ := by
  unfold pullR at hpl
  split at hpl
  · rename_i hc
    unfold movedF at hpl
    split at hpl
    · injection hpl with h1 _; exact absurd h1.symm hne
    · rename_i hpn
      split at hpl
      · rename_i hall
        simp only [List.all_eq_true] at hall
        have okL : ∀ g ∈ p.map (fun g => (pullF (m.getD 0 0) (m.getD 1 0) (m.getD 2 0) (m.getD 3 0) q g).1), HOk g := fun g hg => by
          obtain ⟨g0, hg0, rfl⟩ := List.mem_map.1 hg
          exact halfOf_ok (v := _) rfl (hall g0 hg0)
        have hb : b = makeR (p.map (fun g => (pullF (m.getD 0 0) (m.getD 1 0) (m.getD 2 0) (m.getD 3 0) q g).1)) := by
          rw [meetR_makeR okL] at hpl
          split at hpl
          · injection hpl with _ h2; cases h2
          · injection hpl with h1 _; exact h1.symm
        have hs3 : ∀ g ∈ p, sideI (pullF (m.getD 0 0) (m.getD 1 0) (m.getD 2 0) (m.getD 3 0) q g).1 ⟨x, y, 1⟩ ≤ 0 ↔ sideI g ⟨X, Y, D⟩ ≤ 0 := fun g hg => pull_side hq (by omega) (Prod.ext rfl (hall g hg)) hs
        rw [Bool.eq_iff_iff, hb, has_made okL (by rw [← hb]; exact hne) (by simp), hasL_iff]
        constructor
        · intro h
          refine ⟨hpn, fun g hg => (hs3 g hg).1 (h _ (List.mem_append_left _ (List.mem_map.2 ⟨g, hg, rfl⟩)))⟩
        · intro h g hg
          rcases List.mem_append.1 hg with h1 | h1
          · obtain ⟨g0, hg0, rfl⟩ := List.mem_map.1 h1
            exact (hs3 g0 hg0).2 (h.2 g0 hg0)
          · exact in_frame (s := ⟨x, y, 1⟩) ⟨by simp; omega, by simp; omega, by simp; omega, by simp; omega⟩ g h1
      · injection hpl with _ h2; cases h2
  · injection hpl with _ h2; cases h2
theorem pulled_ok {m : List Int} {q : Int} {p b : List H3} (hpl : pullR m q p = (b, true)) : regionOk b = true := by
  unfold pullR at hpl
  split at hpl
  · exact movedF_ok (fun g _ hg => halfOf_ok (v := _) rfl hg) hpl
  · injection hpl with _ h2; cases h2
/-- A region made of few half planes is valid. -/
theorem made_ok {L : List H3} (ok : ∀ g ∈ L, HOk g) (hl : L.length ≤ 30) : regionOk (makeR L) = true := by
  have h4 : (makeR L).length ≤ 40 := by
    have h1 := sortH_length (L ++ frameH)
    have h2 := pickE_len (sorted4 L) (sorted4 L).length
    have h3 : (sorted4 L).length ≤ 34 := by
      have : (L ++ frameH).length = L.length + 4 := by simp [frameH]
      have : (sorted4 L).length ≤ (L ++ frameH).length := h1
      omega
    unfold makeR makeE
    split
    · simp
    · omega
  refine meetR_ok ok (hs := L) (out := makeR L) ?_
  rw [meetR_makeR ok, if_neg (by omega)]
theorem map_fine {a b e f q x y : Int} (ha : -5 ≤ a ∧ a ≤ 5) (hb : -5 ≤ b ∧ b ≤ 5) (he : -5 ≤ e ∧ e ≤ 5) (hf : -5 ≤ f ∧ f ≤ 5) (hq : 1 ≤ q ∧ q ≤ 5) (hx : -40 ≤ x ∧ x ≤ 40) (hy : -40 ≤ y ∧ y ≤ 40) : ∃ X Y D : Int, spotOf (a * x + b * y) (e * x + f * y) (q * 1) = ((X, Y, D), true) ∧ spotOk X Y D = true := by
  have k1 := mul_bd (A := 5) (B := 40) ha hx
  have k2 := mul_bd (A := 5) (B := 40) hb hy
  have k3 := mul_bd (A := 5) (B := 40) he hx
  have k4 := mul_bd (A := 5) (B := 40) hf hy
  obtain ⟨g, X, Y, D, _, _, h, _, _, k⟩ := spotOf_frame (p := (a * x + b * y, e * x + f * y, q * 1)) (by simp only; omega) (by simp only; omega) (by refine ⟨?_, ?_, ?_, ?_⟩ <;> simp only <;> omega)
  exact ⟨X, Y, D, h, k⟩
end Go.Proofs.YtabmfaamadbefaaGreat
/- What the reference draws for regions: whole spots, maps, areas. Condition: the code has at most 2^20 bytes. -/
set_option linter.unusedVariables false
set_option linter.unusedSimpArgs false
set_option linter.unusedSectionVars false
namespace Go.Proofs.YtabmfaamadbefaaGreat
open Go.RowKit
theorem RY.set3 {w : World} {A : Option Addr} {bs : List Int} {b i : Nat} {v : Value} {x y z : Int} {T : TypeId} (h : RY w A bs) (hb : w.heap[b]? = some (.cells #[.int .i64 x, .int .i64 y, .int .i64 z] T (0, 0))) : RY (w.setCell ⟨b, i, none⟩ v) A bs := fun k hk => by
  obtain ⟨g, o, h1, h2, h3, h4⟩ := h k hk
  have hne : g ≠ b := by
    rintro rfl
    have q : (#[Value.int .i64 x, .int .i64 y, .int .i64 z] : Array Value)[o + k]? = some (.int .u8 bs[k]) := by simpa [World.cell?, hb] using h3
    have hl := (Array.getElem?_eq_some_iff.1 q).1
    simp at hl
    have : o + k = 0 ∨ o + k = 1 ∨ o + k = 2 := by omega
    rcases this with e | e | e <;> rw [e] at q <;> simp at q
  refine ⟨g, o, h1, by simpa using h2, ?_, h4⟩
  rw [← h3]
  simp [World.cell?, heap_setCell_other w ⟨b, i, none⟩ g v hne]

set_option maxHeartbeats 2000000 in
theorem l01Pick_any {b c c2 : Nat} {A A2 : Option Addr} {bs xs : List Int} {w : World} (R : RY w A bs) (C : CurE b A c bs w) (hl : bs.length ≤ 1048576) (X : RI w A2 xs) (hx : 0 < xs.length ∧ xs.length ≤ 256) (hne : ∀ g o, A2 = some ⟨g, o, none⟩ → g ≠ b) :
    Calls Tryz.prog 81 #[.pointer (some ⟨b, 0, none⟩), .slice A2 xs.length c2] w (fun e w' => ∃ k, ∃ hk : k < xs.length, e = .returned (.int .i64 xs[k]) ∧ CurE b A c bs w' ∧ RY w' A bs ∧ w.grownBy w' (some b)) := by
  go_enter Tryz.func81, Tryz.ntmps81
  go_wp2_with fail
  refine (below_small R C hl ⟨by omega, by omega⟩).mono ?_
  rintro e W1 ⟨x, rfl, ⟨hx0, hx1⟩, C1, K⟩
  have R1 := R.thru C K
  obtain ⟨k, rfl⟩ := Int.eq_ofNat_of_zero_le hx0
  have hk : k < xs.length := by omega
  obtain ⟨g, o, rfl, hg, z0⟩ := X k hk
  have z1 : W1.cell? ⟨g, o + k, none⟩ = some (.int .i64 xs[k]) := (World.cell?_of_block (K.block g hg (fun e => hne g o rfl (by injection e)))).trans z0
  have hg1 : g < W1.heap.size := Nat.lt_of_lt_of_le hg K.size
  clear R C X z0 hne
  go_wp2
  go_ret
  exact ⟨k, hk, rfl, C1, R1, K⟩

theorem ib4 {w : World} {g : Nat} {a b e f : Int} (h : w.heap[g]? = some (.cells #[.int .i64 a, .int .i64 b, .int .i64 e, .int .i64 f] 3 (0, 0))) : IB g w [a, b, e, f] := ⟨_, h, rfl, fun j hj => by
  have hj4 : j < 4 := hj
  have : j = 0 ∨ j = 1 ∨ j = 2 ∨ j = 3 := by omega
  rcases this with rfl | rfl | rfl | rfl <;> rfl⟩
theorem pick4 : ∀ (k : Nat) (hk : k < ([1, 2, 4, 5] : List Int).length), 1 ≤ ([1, 2, 4, 5] : List Int)[k] ∧ ([1, 2, 4, 5] : List Int)[k] ≤ 5 := by
  intro k hk
  have hk4 : k < 4 := hk
  have : k = 0 ∨ k = 1 ∨ k = 2 ∨ k = 3 := by omega
  rcases this with rfl | rfl | rfl | rfl <;> simp
def MapPost (b : Nat) (A : Option Addr) (c : Nat) (bs : List Int) (w : World) (e : Ending) (w' : World) : Prop := ∃ (a1 b1 e1 f1 q : Int) (g c' : Nat), e = .returned (.tuple #[.slice (some ⟨g, 0, none⟩) 4 c', .int .i64 q]) ∧ IB g w' [a1, b1, e1, f1] ∧ (-5 ≤ a1 ∧ a1 ≤ 5) ∧ (-5 ≤ b1 ∧ b1 ≤ 5) ∧ (-5 ≤ e1 ∧ e1 ≤ 5) ∧ (-5 ≤ f1 ∧ f1 ≤ 5) ∧ (1 ≤ q ∧ q ≤ 5) ∧ a1 * f1 - b1 * e1 ≠ 0 ∧ w.grownBy w' (some b)
end Go.Proofs.YtabmfaamadbefaaGreat
/- An area that the reference draws. Condition: the code has at most 2^20 bytes. -/
set_option linter.unusedVariables false
set_option linter.unusedSimpArgs false
set_option linter.unusedSectionVars false
namespace Go.Proofs.YtabmfaamadbefaaGreat
open Go.RowKit
theorem RB.thruC {B b c : Nat} {A A1 : Option Addr} {bs : List Int} {w w' : World} {c1 : Nat} {xs : List H3} (h : RB B 44 w A1 c1 xs) (C : CurE b A c bs w) (K : w.grownBy w' (some b)) : RB B 44 w' A1 c1 xs := by
  obtain ⟨i, y, _, hb⟩ := C
  refine ⟨h.1, ?_⟩
  rcases h.2 with e | ⟨g, cap, cu, e1, hgB, hh, hr⟩
  · exact .inl e
  · refine .inr ⟨g, cap, cu, e1, hgB, (K.block g (Array.getElem?_eq_some_iff.1 hh).1 (fun e => ?_)).trans hh, hr⟩
    injection e with e
    subst e
    rw [hh] at hb
    injection hb with hb; injection hb with _ hb; exact absurd hb (by decide)
theorem gb_lowB {s : Nat} {w w1 w2 : World} {o : Option Nat} (h : w.grownBy w1 o) (hb : Below s w1 w2) (hs : w.heap.size ≤ s) : w.grownBy w2 o :=
  ⟨hb.os.trans h.os, hb.tape.trans h.tape, hb.output.trans h.output, Nat.le_trans h.size hb.size, fun k hk hne => (hb.block k (by omega)).trans (h.block k hk hne)⟩
theorem CurE.belowB {s b c : Nat} {A : Option Addr} {bs : List Int} {w w' : World} (h : CurE b A c bs w) (hb : Below s w w') (hs : b < s) : CurE b A c bs w' := by
  obtain ⟨i, h0, hi, hh⟩ := h
  exact ⟨i, h0, hi, (hb.block b hs).trans hh⟩
theorem RY.belowB {s : Nat} {A : Option Addr} {bs : List Int} {w0 w w' : World} (h : RY w A bs) (h0 : RY w0 A bs) (hb : Below s w w') (hs : w0.heap.size ≤ s) : RY w' A bs := fun k hk => by
  obtain ⟨g, o, h1, h2, h3, h4⟩ := h k hk
  obtain ⟨g', o', h1', h2', _⟩ := h0 k hk
  have e : g = g' := by rw [h1] at h1'; injection h1' with e; injection e
  refine ⟨g, o, h1, Nat.lt_of_lt_of_le h2 hb.size, ?_, h4⟩
  rw [← h3]
  exact World.cell?_of_block (hb.block g (by omega))
theorem r3_one {w : World} {a b c : Int} {n : Nat} (hn : n = w.heap.size) : R3 44 (w.alloc (.cells #[.int .i64 a, .int .i64 b, .int .i64 c] 44)) (some ⟨n, 0, none⟩) 1 [⟨a, b, c⟩] := by
  subst hn
  exact ⟨rfl, .inr ⟨_, 1, _, rfl, Nat.zero_le _, heap_alloc_new _ _, Nat.le_refl _, by unfold maxLen; omega, rfl, rfl⟩⟩
theorem unit_ok {a b c : Int} (h : (a = 1 ∧ b = 0) ∨ (a = -1 ∧ b = 0) ∨ (a = 0 ∧ b = 1) ∨ (a = 0 ∧ b = -1)) (hc : -1000 ≤ c ∧ c ≤ 1000) : HOk ⟨a, b, c⟩ := by
  rcases h with ⟨rfl, rfl⟩ | ⟨rfl, rfl⟩ | ⟨rfl, rfl⟩ | ⟨rfl, rfl⟩ <;> refine ⟨by simp, by simp, by simp only; omega, by unfold NZ; simp, by unfold Prim; simp [gcdL]⟩
def boxL (x y d h : Int) : List H3 := [⟨1, 0, x + d⟩, ⟨0, 1, y + h⟩, ⟨-1, 0, -x⟩, ⟨0, -1, -y⟩]
theorem boxL_ok {x y d h : Int} (hx : -40 ≤ x ∧ x ≤ 40) (hy : -40 ≤ y ∧ y ≤ 40) (hd : 0 ≤ d ∧ d ≤ 100) (hh : 0 ≤ h ∧ h ≤ 100) : ∀ g ∈ boxL x y d h, HOk g := by
  intro g hg
  simp only [boxL, List.mem_cons, List.not_mem_nil, or_false] at hg
  rcases hg with rfl | rfl | rfl | rfl
  · exact unit_ok (.inl ⟨rfl, rfl⟩) ⟨by omega, by omega⟩
  · exact unit_ok (.inr (.inr (.inl ⟨rfl, rfl⟩))) ⟨by omega, by omega⟩
  · exact unit_ok (.inr (.inl ⟨rfl, rfl⟩)) ⟨by omega, by omega⟩
  · exact unit_ok (.inr (.inr (.inr ⟨rfl, rfl⟩))) ⟨by omega, by omega⟩

/-- The half planes that an area is drawn of. -/
structure DrawL (px py pd ph : Int) (L : List H3) : Prop where
  box : ∀ g ∈ boxL px py pd ph, g ∈ L
  ok : ∀ g ∈ L, HOk g ∧ (-3 ≤ g.a ∧ g.a ≤ 3) ∧ (-3 ≤ g.b ∧ g.b ≤ 3) ∧ (-400 ≤ g.c ∧ g.c ≤ 400) ∧ g.a * (px + 1) + g.b * (py + 1) < g.c
structure AreaBd (px py pd ph : Int) : Prop where
  bx : -40 ≤ px ∧ px ≤ 19
  bY : -40 ≤ py ∧ py ≤ 19
  bd : 20 ≤ pd ∧ pd ≤ 79
  bh : 20 ≤ ph ∧ ph ≤ 79
def AreaP (p : List H3) : Prop := ∃ (px py pd ph : Int) (L : List H3), p = makeR L ∧ L.length ≤ 6 ∧ DrawL px py pd ph L ∧ AreaBd px py pd ph
theorem draw_box {px py pd ph : Int} (B : AreaBd px py pd ph) : DrawL px py pd ph (boxL px py pd ph) := by
  obtain ⟨bx, bY, bd, bh⟩ := B
  refine ⟨fun g hg => hg, fun g hg => ⟨boxL_ok (by omega) (by omega) (by omega) (by omega) g hg, ?_⟩⟩
  simp only [boxL, List.mem_cons, List.not_mem_nil, or_false] at hg
  rcases hg with rfl | rfl | rfl | rfl <;> (simp only; omega)
theorem scaled_le {n A : Int} {k : Nat} (k0 : 0 < k) (h : -A ≤ n * k ∧ n * k ≤ A) (hA : 0 ≤ A) : -A ≤ n ∧ n ≤ A := by
  obtain ⟨j, rfl⟩ : ∃ j : Nat, k = j + 1 := ⟨k - 1, by omega⟩
  have e : n * ((j + 1 : Nat) : Int) = n * (j : Int) + n := by push_cast; grind
  rw [e] at h
  rcases Int.lt_or_le n 0 with q | q
  · have := Int.mul_nonpos_of_nonpos_of_nonneg (show n ≤ 0 by omega) (show (0 : Int) ≤ (j : Int) by omega)
    omega
  · have := Int.mul_nonneg q (show (0 : Int) ≤ (j : Int) by omega)
    omega
theorem draw_add {px py pd ph qa qb cc : Int} {L : List H3} {g : H3} (D : DrawL px py pd ph L) (B : AreaBd px py pd ph) (h : halfOf qa qb cc = (g, true)) (ba : -3 ≤ qa ∧ qa ≤ 3) (bb : 1 ≤ qb ∧ qb ≤ 3) (h1 : qa * px + qb * py + 20 ≤ cc) (h2 : cc ≤ qa * px + qb * py + 158) : DrawL px py pd ph (L ++ [g]) := by
  refine ⟨fun x hx => List.mem_append_left _ (D.box x hx), fun x hx => ?_⟩
  rcases List.mem_append.1 hx with q | q
  · exact D.ok x q
  · rw [List.mem_singleton.1 q]
    obtain ⟨k, k0, ea, eb, ec⟩ := half_scale h
    have m1 := mul_bd (A := 3) (B := 40) ba (show -40 ≤ px ∧ px ≤ 40 by have := B.bx; omega)
    have m2 := mul_bd (A := 3) (B := 40) (show -3 ≤ qb ∧ qb ≤ 3 by omega) (show -40 ≤ py ∧ py ≤ 40 by have := B.bY; omega)
    refine ⟨halfOf_ok h rfl, scaled_le k0 (by rw [← ea]; omega) (by omega), scaled_le k0 (by rw [← eb]; omega) (by omega), scaled_le k0 (by rw [← ec]; omega) (by omega), ?_⟩
    have e : (g.a * (px + 1) + g.b * (py + 1)) * (k : Int) < g.c * k := by
      have : (g.a * (px + 1) + g.b * (py + 1)) * (k : Int) = (g.a * k) * px + (g.b * k) * py + g.a * k + g.b * k := by grind
      rw [this, ← ea, ← eb, ← ec]
      omega
    apply Classical.byContradiction; intro hn
    have := Int.mul_le_mul_of_nonneg_right (show g.c ≤ g.a * (px + 1) + g.b * (py + 1) by omega) (show (0 : Int) ≤ (k : Int) by omega)
    omega
def AreaPost (w : World) (e : Ending) (w' : World) : Prop := ∃ (p : List H3) (A' : Option Addr) (c' : Nat), e = .returned (.agg #[.slice A' p.length c']) ∧ R3 44 w' A' c' p ∧ regionOk p = true ∧ AreaP p
end Go.Proofs.YtabmfaamadbefaaGreat
/- Contracts of HasSpot and CanBeKept of both sides. Condition: rows are short. -/
set_option linter.unusedVariables false
set_option linter.unusedSimpArgs false
set_option linter.unusedSectionVars false
namespace Go.Proofs.YtabmfaamadbefaaGreat
open Go.RowKit
structure SpB (x y d : Int) : Prop where
  x : -9223372036854775808 ≤ x ∧ x ≤ 9223372036854775807
  y : -9223372036854775808 ≤ y ∧ y ≤ 9223372036854775807
  d : -9223372036854775808 ≤ d ∧ d ≤ 9223372036854775807

def hasSpotR (ps : List H3) (x y d : Int) : Bool := regionOk ps && spotOk x y d && hasL ps ⟨x, y, d⟩
set_option maxRecDepth 100000 in
set_option maxHeartbeats 8000000 in
theorem impl_HasSpot_eq {p : List H3} {Ap : Option Addr} {cp : Nat} {x1 y1 d1 : Int} {v : Bool} {w : World} (Rp : R3 44 w Ap cp p) (hlp : p.length ≤ 1000000000) (S : SpB x1 y1 d1) (hr : Hid (hasSpotR p x1 y1 d1 = v)) :
    Calls Tryz.prog 30 #[.agg #[.slice Ap p.length cp], .agg #[.int .i64 x1, .int .i64 y1, .int .i64 d1]] w (fun e w' => e = .returned (.bool v) ∧ Below w.heap.size w w') := by
  obtain ⟨t0, h0⟩ : ∃ t, decide (p.length = 0) = t := ⟨_, rfl⟩
  obtain ⟨t1, h1⟩ : ∃ t, regionOk p = t := ⟨_, rfl⟩
  obtain ⟨t2, h2⟩ : ∃ t, spotOk x1 y1 d1 = t := ⟨_, rfl⟩
  obtain ⟨t3, h3⟩ : ∃ t, hasL p ⟨x1, y1, d1⟩ = t := ⟨_, rfl⟩
  have hv := hr.out
  unfold hasSpotR at hv
  rw [h1, h2, h3] at hv
  have hz : t0 = true → t3 = false := fun e => by
    rw [← h3]
    rw [e, decide_eq_true_eq] at h0
    rw [List.length_eq_zero_iff.1 h0]; rfl
  have H0 := Lib.hid h0
  have H1 := Lib.hid h1
  have H2 := Lib.hid h2
  have HC : t1 = true → t2 = true → Hid (∀ W, R3 44 W Ap cp p → Calls Tryz.prog 69 #[.agg #[.slice Ap p.length cp], .agg #[.int .i64 x1, .int .i64 y1, .int .i64 d1]] W fun e w' => e = .returned (.bool t3) ∧ Below W.heap.size W w') := fun e1 e2 => Lib.hid (fun W RW => holds_eq (s := ⟨x1, y1, d1⟩) (region_good (h1.trans e1)).1 (h2.trans e2) RW (by have := (region_good (h1.trans e1)).2; omega) (Lib.hid h3))
  clear hr
  have hc : (v = false ∧ (t0 = true ∨ (t0 = false ∧ t2 = false) ∨ (t0 = false ∧ t2 = true ∧ t1 = false))) ∨ (t0 = false ∧ t2 = true ∧ t1 = true ∧ t3 = v) := by
    rw [← hv]
    cases t0 <;> cases t1 <;> cases t2 <;> cases t3 <;> simp at hz ⊢
  clear h0 h1 h2 h3 hz hv
  rcases hc with ⟨rfl, rfl | ⟨rfl, rfl⟩ | ⟨rfl, rfl, rfl⟩⟩ | ⟨rfl, rfl, rfl, rfl⟩
  · clear HC
    go_enter Tryz.func30, Tryz.ntmps30
    go_wp2_with (first | (go_at_call 20; (first | (with_reducible refine (calls_ov2 (IsVoid_eq H0)).mono ?_) | refine (calls_ov (IsVoid_eq H0)).mono ?_); rintro e w' ⟨rfl, x, rfl⟩) | (go_at_call 31; (first | (with_reducible refine (calls_ov2 (impl_SpotOk_eq H2.out S.x S.y S.d)).mono ?_) | refine (calls_ov (impl_SpotOk_eq H2.out S.x S.y S.d)).mono ?_); rintro e w' ⟨rfl, x, rfl⟩) | (go_at_call 51; (first | (with_reducible refine (calls_ov2 (impl_RegionOk_eq (Rp.below (by repeat (first | exact bR | refine bO ?_ | refine bA ?_ | refine bS ?_ | refine bD ?_ | refine bN ?_))) hlp H1)).mono ?_) | refine (calls_ov (impl_RegionOk_eq (Rp.below (by repeat (first | exact bR | refine bO ?_ | refine bA ?_ | refine bS ?_ | refine bD ?_ | refine bN ?_))) hlp H1)).mono ?_); rintro e w' ⟨rfl, x, rfl⟩))
    go_ret
    exact ⟨rfl, (by repeat (first | exact bR | refine bO ?_ | refine bA ?_ | refine bS ?_ | refine bD ?_ | refine bN ?_))⟩
  · clear HC
    go_enter Tryz.func30, Tryz.ntmps30
    go_wp2_with (first | (go_at_call 20; (first | (with_reducible refine (calls_ov2 (IsVoid_eq H0)).mono ?_) | refine (calls_ov (IsVoid_eq H0)).mono ?_); rintro e w' ⟨rfl, x, rfl⟩) | (go_at_call 31; (first | (with_reducible refine (calls_ov2 (impl_SpotOk_eq H2.out S.x S.y S.d)).mono ?_) | refine (calls_ov (impl_SpotOk_eq H2.out S.x S.y S.d)).mono ?_); rintro e w' ⟨rfl, x, rfl⟩) | (go_at_call 51; (first | (with_reducible refine (calls_ov2 (impl_RegionOk_eq (Rp.below (by repeat (first | exact bR | refine bO ?_ | refine bA ?_ | refine bS ?_ | refine bD ?_ | refine bN ?_))) hlp H1)).mono ?_) | refine (calls_ov (impl_RegionOk_eq (Rp.below (by repeat (first | exact bR | refine bO ?_ | refine bA ?_ | refine bS ?_ | refine bD ?_ | refine bN ?_))) hlp H1)).mono ?_); rintro e w' ⟨rfl, x, rfl⟩))
    go_ret
    exact ⟨rfl, (by repeat (first | exact bR | refine bO ?_ | refine bA ?_ | refine bS ?_ | refine bD ?_ | refine bN ?_))⟩
  · clear HC
    go_enter Tryz.func30, Tryz.ntmps30
    go_wp2_with (first | (go_at_call 20; (first | (with_reducible refine (calls_ov2 (IsVoid_eq H0)).mono ?_) | refine (calls_ov (IsVoid_eq H0)).mono ?_); rintro e w' ⟨rfl, x, rfl⟩) | (go_at_call 31; (first | (with_reducible refine (calls_ov2 (impl_SpotOk_eq H2.out S.x S.y S.d)).mono ?_) | refine (calls_ov (impl_SpotOk_eq H2.out S.x S.y S.d)).mono ?_); rintro e w' ⟨rfl, x, rfl⟩) | (go_at_call 51; (first | (with_reducible refine (calls_ov2 (impl_RegionOk_eq (Rp.below (by repeat (first | exact bR | refine bO ?_ | refine bA ?_ | refine bS ?_ | refine bD ?_ | refine bN ?_))) hlp H1)).mono ?_) | refine (calls_ov (impl_RegionOk_eq (Rp.below (by repeat (first | exact bR | refine bO ?_ | refine bA ?_ | refine bS ?_ | refine bD ?_ | refine bN ?_))) hlp H1)).mono ?_); rintro e w' ⟨rfl, x, rfl⟩))
    go_ret
    exact ⟨rfl, (by repeat (first | exact bR | refine bO ?_ | refine bA ?_ | refine bS ?_ | refine bD ?_ | refine bN ?_))⟩
  · replace HC := HC rfl rfl
    go_enter Tryz.func30, Tryz.ntmps30
    go_wp2_with (first | (go_at_call 20; (first | (with_reducible refine (calls_ov2 (IsVoid_eq H0)).mono ?_) | refine (calls_ov (IsVoid_eq H0)).mono ?_); rintro e w' ⟨rfl, x, rfl⟩) | (go_at_call 31; (first | (with_reducible refine (calls_ov2 (impl_SpotOk_eq H2.out S.x S.y S.d)).mono ?_) | refine (calls_ov (impl_SpotOk_eq H2.out S.x S.y S.d)).mono ?_); rintro e w' ⟨rfl, x, rfl⟩) | (go_at_call 51; (first | (with_reducible refine (calls_ov2 (impl_RegionOk_eq (Rp.below (by repeat (first | exact bR | refine bO ?_ | refine bA ?_ | refine bS ?_ | refine bD ?_ | refine bN ?_))) hlp H1)).mono ?_) | refine (calls_ov (impl_RegionOk_eq (Rp.below (by repeat (first | exact bR | refine bO ?_ | refine bA ?_ | refine bS ?_ | refine bD ?_ | refine bN ?_))) hlp H1)).mono ?_); rintro e w' ⟨rfl, x, rfl⟩) | (go_at_call 69; (first | (with_reducible refine (calls_ov2 (HC.out _ (by exact Rp.below (by repeat (first | exact bR | refine bO ?_ | refine bA ?_ | refine bS ?_ | refine bD ?_ | refine bN ?_))))).mono ?_) | refine (calls_ov (HC.out _ (by exact Rp.below (by repeat (first | exact bR | refine bO ?_ | refine bA ?_ | refine bS ?_ | refine bD ?_ | refine bN ?_))))).mono ?_); rintro e w' ⟨rfl, x, rfl⟩))
    go_ret
    exact ⟨rfl, (by repeat (first | exact bR | refine bO ?_ | refine bA ?_ | refine bS ?_ | refine bD ?_ | refine bN ?_))⟩

end Go.Proofs.YtabmfaamadbefaaGreat