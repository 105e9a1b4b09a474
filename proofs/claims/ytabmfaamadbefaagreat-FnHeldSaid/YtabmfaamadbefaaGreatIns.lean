/- Contract of slices.Insert of one half plane into a row of the call's own. Condition: the index is at most the length; the inserted one lies in a block of its own. -/
import Derived.Test.YtabmfaamadbefaaGreatEd
import Derived.Laws.CopyRow
import Derived.Lib.Overlaps
import Derived.Lib.AppendZeros
import Derived.Lib.AppendZerosOnto
import Derived.Laws.Externs
import Derived.Shelf.RegionOpenPlain
import Derived.Deep.RegionLaw
set_option linter.unusedSimpArgs false
set_option linter.unusedVariables false
set_option linter.unusedSectionVars false
namespace Go.Proofs.YtabmfaamadbefaaGreat
open Go.RowKit
theorem info_half : (Tryz.prog.info? 44).map (fun i => (i.zero, i.size, i.bytes)) = some (some (.agg #[.int .i64 0, .int .i64 0, .int .i64 0]), 3, 24) := by kernel_rfl

theorem run_copy_row3 {P : Program} (w : World) (dT sT ty elem : TypeId) (g o dLen dCap : Nat) (a : Addr) (sLen sCap : Nat) (cur : Array Value) (t : TypeId) (cs : List Value)
    (hu : P.underlying dT = some (.slice elem)) (hs : (P.info? elem).map (·.size) = some 3)
    (hg : w.heap[g]? = some (.cells cur t (0, 0))) (n : Nat) (hn : n = Nat.min sLen dLen) (hc : cs.length = n * 3)
    (hsrc : ∀ j v, cs[j]? = some v → w.cell? (a.add j) = some v) (hfit : o + cs.length ≤ cur.size) (h1 : ∀ v ∈ cs, v.oneCell' = true) :
    (Builtin.copy_ #[dT, sT] ty #[.slice (some ⟨g, o, none⟩) dLen dCap, .slice (some a) sLen sCap]).run P w =
      .ok (goInt n) (w.setRow g (cur.toList.take o ++ cs ++ cur.toList.drop (o + cs.length)).toArray) := by
  have hl := run_loadCells_list (P := P) w a cs hsrc
  have hst := run_storeCells_at P g o t cs 0 cur w hg (by simpa using hfit) h1
  cases hq : P.info? elem with
  | none => simp [hq] at hs
  | some i =>
    have hi : i.size = 3 := by simpa [hq] using hs
    simp [Builtin.copy_, run_underlying hu, Builtin.lenOf, Builtin.firstCells, sizeOf, typeInfo, hq, hi, ← hn, ← hc, hl, hst]

theorem wp_copy_run3 {P : Program} (w : World) {o : Oper} {a : Act} {K : Act → World → Prop} {Q : Exit → Act → World → Prop} (d s : Operand) (t t' : TypeId)
    (ho : o.op = .call { callee := .builtin .copy, args := #[d, s], argTypes := #[t, t'] }) (v u : Value) (hd : a.eval d = v) (hs : a.eval s = u) {v' : Value} {w' : World}
    (hr : (Builtin.copy_ #[t, t'] o.type #[v, u]).run P w = .ok v' w') (h : K (a.put o.dst v') w') : o.wp P a w K Q := by
  unfold Oper.wp execOp
  simp only [ho, resolve, invoke, builtin, Sem.run_bind, Sem.run_pure, Result.andThen_ok, List.map_toArray, List.map_cons, List.map_nil, hd, hs, hr]
  exact h
theorem wpList_copy_run3 {P : Program} (w : World) {ops : Array Oper} {rest : List Oper} {o : Oper} {a : Act} {Q : Exit → Act → World → Prop} (hgd : o.guard = none) (d s : Operand) (t t' : TypeId)
    (ho : o.op = .call { callee := .builtin .copy, args := #[d, s], argTypes := #[t, t'] }) (v u : Value) (hd : a.eval d = v) (hs : a.eval s = u) {v' : Value} {w' : World}
    (hr : (Builtin.copy_ #[t, t'] o.type #[v, u]).run P w = .ok v' w') (h : wpList P ops Q rest (a.put o.dst v') w') : wpList P ops Q (o :: rest) a w :=
  wpList_plain hgd fun _ hK => wp_copy_run3 w d s t t' ho v u hd hs hr (hK _ _ h)
theorem step_copy_run3 {P : Program} {ops : Array Oper} {o : Oper} {a : Act} {w : World} {K : Act → World → Prop} {Q : Exit → Act → World → Prop} {E : Prop}
    (hg : o.guard = none) (d x : Operand) (dT sT : TypeId) (hop : o.op = Op.call { callee := Callee.builtin Builtin.copy, args := #[d, x], argTypes := #[dT, sT] })
    (v u : Value) (hd : a.eval d = v) (hx : a.eval x = u) {v' : Value} {w' : World} (hr : (Builtin.copy_ #[dT, sT] o.type #[v, u]).run P w = .ok v' w') (hK : K (a.put o.dst v') w') :
    if Region.wanted o (yielded ops a.tmps) = true then Oper.wp P o a w K Q else E := by
  have hw : Region.wanted o (yielded ops a.tmps) = true := by simp [Region.wanted, hg]
  rw [if_pos hw]
  unfold Oper.wp
  simp [execOp, hop, resolve, invoke, builtin, hd, hx, hr, Result.andThen]
  exact hK

/-- Row algebra: what stood ahead, what is put in, what stood behind. -/
theorem row_two {α : Type} (A Z X D : List α) (a x d : Nat) (ha : A.length = a) (hx : X.length = x) (hd : D.length = d) (hz : x + d ≤ Z.length) :
    ((((A ++ Z).take a ++ X ++ (A ++ Z).drop (a + x)).take (a + x) ++ D ++ ((A ++ Z).take a ++ X ++ (A ++ Z).drop (a + x)).drop (a + x + d)).take (a + x + d) = A ++ X ++ D) ∧
    (((A ++ Z).take a ++ X ++ (A ++ Z).drop (a + x)).take (a + x) ++ D ++ ((A ++ Z).take a ++ X ++ (A ++ Z).drop (a + x)).drop (a + x + d)).length = (A ++ Z).length := by
  subst ha; subst hx; subst hd
  have e1 : (A ++ Z).take A.length = A := by simp
  rw [e1]
  have e2 : (A ++ X ++ (A ++ Z).drop (A.length + X.length)).take (A.length + X.length) = A ++ X := by
    rw [← List.length_append, List.take_left]
  rw [e2]
  constructor
  · rw [show A.length + X.length + D.length = (A ++ X ++ D).length by simp [Nat.add_assoc], List.take_left]
  · simp; omega

theorem row_shift {α : Type} (C X D : List α) (a x d : Nat) (hx : X.length = x) (hd : D.length = d) (hc : a + x + d ≤ C.length) :
    (((C.take (a + x) ++ D ++ C.drop (a + x + d)).take a ++ X ++ (C.take (a + x) ++ D ++ C.drop (a + x + d)).drop (a + x)).take (a + x + d) = C.take a ++ X ++ D) ∧
    ((C.take (a + x) ++ D ++ C.drop (a + x + d)).take a ++ X ++ (C.take (a + x) ++ D ++ C.drop (a + x + d)).drop (a + x)).length = C.length := by
  subst hx; subst hd
  have l1 : (C.take (a + X.length)).length = a + X.length := by rw [List.length_take]; omega
  have e1 : (C.take (a + X.length) ++ D ++ C.drop (a + X.length + D.length)).take a = C.take a := by
    rw [List.append_assoc, List.take_append_of_le_length (by omega), List.take_take]; congr 1; omega
  have e2 : (C.take (a + X.length) ++ D ++ C.drop (a + X.length + D.length)).drop (a + X.length) = D ++ C.drop (a + X.length + D.length) := by
    rw [List.append_assoc]; exact List.drop_left' l1
  rw [e1, e2]
  have l2 : (C.take a).length = a := by rw [List.length_take]; omega
  constructor
  · rw [← List.append_assoc]
    exact List.take_left' (by simp only [List.length_append, l2])
  · simp only [List.length_append, l2, List.length_drop]; omega

def InsPost (B : Nat) (w : World) (xs : List H3) (e : Ending) (w' : World) : Prop := ∃ A c, e = .returned (.slice A xs.length c) ∧ RB B 44 w' A c xs ∧ Below B w w'

section
variable {B : Nat} {w : World} {A : Option Addr} {c : Nat} {xs : List H3} {vb : Nat} {x : H3}
theorem news_at (hv : w.heap[vb]? = some (.cells #[.int .i64 x.a, .int .i64 x.b, .int .i64 x.c] 44 (0, 0))) : ∀ (j : Nat) (u : Value), (cells3 [x])[j]? = some u → w.cell? ((⟨vb, 0, none⟩ : Addr).add j) = some u := by
  intro j u hj
  rw [Addr.add_lit, cell_of_row w vb _ _ _ _ hv]
  have e : cells3 [x] = [.int .i64 x.a, .int .i64 x.b, .int .i64 x.c] := rfl
  rw [e] at hj
  simpa using hj

set_option maxRecDepth 100000 in
set_option maxHeartbeats 1000000 in
theorem Insert_end (h : RB B 44 w A c xs) (hB : B ≤ w.heap.size) (hv : w.heap[vb]? = some (.cells #[.int .i64 x.a, .int .i64 x.b, .int .i64 x.c] 44 (0, 0))) (hl : xs.length ≤ 1000) :
    Calls Tryz.prog 124 #[.slice A xs.length c, .int .i64 xs.length, .slice (some ⟨vb, 0, none⟩) 1 1] w (InsPost B w (xs ++ [x])) := by
  obtain ⟨i0, hi, hz0, hz1, hz2⟩ := info_parts info_half
  have hnews := news_at hv
  have h' : w.ownsRow B 44 3 (.slice A xs.length c) xs.length (cells3 xs) := h
  have fin : ∀ (v' : Value) (w1 : World), w1.ownsRow B 44 3 v' (xs.length + 1) (cells3 xs ++ cells3 [x]) → w.grownBy w1 (Value.slice A xs.length c).ownBlock → InsPost B w (xs ++ [x]) (.returned v') w1 := by
    intro v' w1 ho hg
    have e : (xs ++ [x]).length = xs.length + 1 := by simp
    rw [← cells3_append, ← e] at ho
    obtain ⟨A', c', hv', hr⟩ := own_slice ho
    exact ⟨A', c', by rw [hv'], hr, (Below.refl _ _).grown hg hB (fun k hk => (h'.lt k hk).1)⟩
  have FIN := Lib.hid fin
  clear fin
  rcases h.2 with ⟨e, hn⟩ | ⟨g, cap, cur, e, hbg, hh, h1, h2, h3, h4⟩
  · injection e with e1 e2 e3
    subst e1; subst e3
    have hxs : xs = [] := List.eq_nil_of_length_eq_zero hn
    subst hxs
    simp only [List.length_nil] at h' ⊢
    clear e2 hn
    have H' := Lib.hid h'
    clear h'
    go_enter Tryz.func124, Tryz.ntmps124
    go_wp2_with (at_builtin; refine wpList_append_own _ rfl _ _ 24 rfl B 44 i0 (.agg #[.int .i64 0, .int .i64 0, .int .i64 0]) 3 24 Tryz.underlying24 hi hz0 hz1 hz2 rfl (by decide) _ _ _ rfl H'.out ⟨vb, 0, none⟩ 1 1 (cells3 [x]) rfl rfl hnews (cells3_one _) (by decide) (by decide) hB ?_; intro v' w1 hown' hg' _)
    go_ret
    exact FIN.out _ _ hown' hg'
  · injection e with e1 e2 e3
    subst e1; subst e3
    unfold maxLen at h2
    have H' := Lib.hid h'
    have H3 := Lib.hid h3
    have H4 := Lib.hid h4
    clear h' h3 h4 e2
    have hz : ((xs.length : Int) == (xs.length : Int)) = true := by simp
    by_cases hcn : c = xs.length
    · subst hcn
      go_enter Tryz.func124, Tryz.ntmps124
      go_wp2_with (at_builtin; refine wpList_append_own _ rfl _ _ 24 rfl B 44 i0 (.agg #[.int .i64 0, .int .i64 0, .int .i64 0]) 3 24 Tryz.underlying24 hi hz0 hz1 hz2 rfl (by decide) _ _ _ rfl H'.out ⟨vb, 0, none⟩ 1 1 (cells3 [x]) rfl rfl hnews (cells3_one _) (by unfold maxLen; omega) (by omega) hB ?_; intro v' w1 hown' hg' _)
      go_ret
      exact FIN.out _ _ hown' hg'
    · go_enter Tryz.func124, Tryz.ntmps124
      go_wp2_with (at_builtin; refine wpList_append_own _ rfl _ _ 24 rfl B 44 i0 (.agg #[.int .i64 0, .int .i64 0, .int .i64 0]) 3 24 Tryz.underlying24 hi hz0 hz1 hz2 rfl (by decide) _ _ _ rfl H'.out ⟨vb, 0, none⟩ 1 1 (cells3 [x]) rfl rfl hnews (cells3_one _) (by unfold maxLen; omega) (by omega) hB ?_; intro v' w1 hown' hg' _)
      go_ret
      exact FIN.out _ _ hown' hg'

set_option maxRecDepth 100000 in
set_option maxHeartbeats 4000000 in
/-- No room, not at the end: a new row. -/
theorem Insert_grow {i : Nat} (h : RB B 44 w A c xs) (hB : B ≤ w.heap.size) (hv : w.heap[vb]? = some (.cells #[.int .i64 x.a, .int .i64 x.b, .int .i64 x.c] 44 (0, 0))) (hl : xs.length ≤ 1000)
    (hin : i < xs.length) (hroom : c < xs.length + 1) :
    Calls Tryz.prog 124 #[.slice A xs.length c, .int .i64 i, .slice (some ⟨vb, 0, none⟩) 1 1] w (InsPost B w (xs.take i ++ x :: xs.drop i)) := by
  obtain ⟨i0, hi, hz0, hz1, hz2⟩ := info_parts info_half
  have hnews := news_at hv
  obtain ⟨g, cur, rfl, hbg, hgl, hh, h1, h2, h3, h4⟩ := h.row (by omega)
  obtain rfl : c = xs.length := by omega
  unfold maxLen at h2
  have hvl : vb < w.heap.size := by
    rcases Nat.lt_or_ge vb w.heap.size with q | q
    · exact q
    · rw [Array.getElem?_eq_none q] at hv; cases hv
  have hcell : ∀ (j : Nat) (u : Value), (cells3 xs)[j]? = some u → w.cell? ⟨g, j, none⟩ = some u := by
    intro j u hj
    have hjl : j < xs.length * 3 := by
      have := (List.getElem?_eq_some_iff.1 hj).1
      rwa [cells3_length] at this
    have h' : w.ownsRow B 44 3 (.slice (some ⟨g, 0, none⟩) xs.length xs.length) xs.length (cells3 xs) := h
    rw [h'.cellAt j hjl]; exact hj
  obtain ⟨G, hG⟩ : ∃ G, G = grownCap w (xs.length + 1) xs.length 44 := ⟨_, rfl⟩
  have hG1 : xs.length + 1 ≤ G := by rw [hG]; exact grownCap_ge w _ _ _
  have hG2 : G ≤ maxLen := by rw [hG]; exact grownCap_le_maxLen w _ _ _ (by unfold maxLen; omega)
  have hik : i + (xs.length + 1 - i) = xs.length + 1 := by omega
  obtain ⟨Z, hZ, hZl⟩ : ∃ Z : List Value, Z = (Builtin.zeroCells (Value.agg #[.int .i64 0, .int .i64 0, .int .i64 0]).cells (xs.length + 1 - i)).toList ++ (Builtin.zeroCells (Value.agg #[.int .i64 0, .int .i64 0, .int .i64 0]).cells (G - (xs.length + 1))).toList ∧ Z.length = (G - i) * 3 := by
    refine ⟨_, rfl, ?_⟩
    have s3 : (Value.agg #[.int .i64 0, .int .i64 0, .int .i64 0]).cells.size = 3 := rfl
    simp only [List.length_append, Array.length_toList, size_zeroCells, s3]
    omega
  obtain ⟨R1, hR1⟩ : ∃ R1 : Array Value, R1 = ((cells3 xs).take (i * 3) ++ Z).toArray := ⟨_, rfl⟩
  have hAl : ((cells3 xs).take (i * 3)).length = i * 3 := by rw [List.length_take, cells3_length]; omega
  have hR1s : R1.size = G * 3 := by rw [hR1]; simp [hAl, hZl]; omega
  obtain ⟨W1, hrz, hN1, hb1⟩ : ∃ W1, (∀ ty, (Builtin.append_ #[24, 3] ty #[.slice (some ⟨g, 0, none⟩) i xs.length, .int .i64 ((xs.length : Int) + 1 - (i : Int))]).run Tryz.prog w = .ok (.slice (some ⟨w.heap.size, 0, none⟩) (xs.length + 1) G) W1) ∧
      W1.heap[w.heap.size]? = some (.cells R1 44 (0, 0)) ∧ Below w.heap.size w W1 := by
    refine ⟨w.drew.alloc (.cells R1 44), fun ty => ?_, heap_alloc_new w.drew _, (Below.refl _ _).drew.alloc (Nat.le_refl _) _⟩
    have hold : (Builtin.firstCells i0.size i (.slice (some ⟨g, 0, none⟩) i xs.length)).run Tryz.prog w.drew = .ok ((cells3 xs).take (i * 3)).toArray w.drew := by
      rw [hz1]
      exact run_firstCells_some w.drew 3 i ⟨g, 0, none⟩ i xs.length _ hAl (fun j v hj => by
        rw [Addr.add_lit, Nat.zero_add]
        rw [List.getElem?_take] at hj
        split at hj
        · exact hcell j v hj
        · cases hj)
    have hk : (xs.length : Int) + 1 - (i : Int) = ((xs.length + 1 - i : Nat) : Int) := by omega
    have hr := Lib.run_append_grow_zeros w 24 3 ty 44 i0 _ .i64 .i64 Tryz.underlying24 Tryz.underlying3 hi hz0 (some ⟨g, 0, none⟩) i xs.length _ hold (xs.length + 1 - i) (by omega) (by omega) (by omega) (by omega) (by rw [hz2]; omega)
      (by rw [hz2, hik]; exact growslice_fits (by omega) (by omega))
    rw [hik, ← hG] at hr
    rw [hk, hr, hR1, hZ]
    have ea : ∀ X Y : Array Value, ((cells3 xs).take (i * 3)).toArray ++ X ++ Y = ((cells3 xs).take (i * 3) ++ (X.toList ++ Y.toList)).toArray := fun X Y => by
      apply Array.toList_inj.1; simp [List.append_assoc]
    rw [ea]
  -- the new one is laid
  obtain ⟨R2, hR2⟩ : ∃ R2 : Array Value, R2 = (R1.toList.take (i * 3) ++ cells3 [x] ++ R1.toList.drop (i * 3 + (cells3 [x]).length)).toArray := ⟨_, rfl⟩
  have hR2s : R2.size = G * 3 := by
    rw [hR2]; simp [hR1s, cells3]; omega
  obtain ⟨W2, hW2⟩ : ∃ W2, W2 = W1.setRow w.heap.size R2 := ⟨_, rfl⟩
  have hb1v := hb1.block vb hvl
  have hcpA : ∀ ty dc, (Builtin.copy_ #[24, 24] ty #[.slice (some ⟨w.heap.size, i * 3, none⟩) (xs.length + 1 - i) dc, .slice (some ⟨vb, 0, none⟩) 1 1]).run Tryz.prog W1 = .ok (goInt 1) W2 := fun ty dc => by
    rw [hW2, hR2]
    refine run_copy_row3 W1 _ _ ty 44 w.heap.size (i * 3) _ dc ⟨vb, 0, none⟩ 1 1 R1 _ (cells3 [x]) Tryz.underlying24 (by rw [hi]; simp [hz1]) hN1 1 ?_ rfl ?_ ?_ (cells3_one _)
    · exact (Nat.min_eq_left (show 1 ≤ xs.length + 1 - i by omega)).symm
    · intro j u hj
      have hj' := hnews j u hj
      rw [Addr.add_lit] at hj' ⊢
      rw [← hj']
      exact World.cell?_of_block (w := w) (a := ⟨vb, 0 + j, none⟩) hb1v
    · show i * 3 + 3 ≤ R1.size; omega
  have hN2 : W2.heap[w.heap.size]? = some (.cells R2 44 (0, 0)) := by rw [hW2]; exact setRow_heap _ _ _ _ _ _ hN1
  have hb2 : Below w.heap.size w W2 := by
    rw [hW2]; exact hb1.trans ⟨rfl, rfl, rfl, by simp [World.setRow], fun k hk => setRow_other _ _ _ _ (by omega)⟩
  -- what stood behind it is laid
  obtain ⟨R3', hR3⟩ : ∃ R3 : Array Value, R3 = (R2.toList.take (i * 3 + 3) ++ (cells3 xs).drop (i * 3) ++ R2.toList.drop (i * 3 + 3 + ((cells3 xs).drop (i * 3)).length)).toArray := ⟨_, rfl⟩
  obtain ⟨W3, hW3⟩ : ∃ W3, W3 = W2.drew.setRow w.heap.size R3' := ⟨_, rfl⟩
  have hDl : ((cells3 xs).drop (i * 3)).length = (xs.length - i) * 3 := by rw [List.length_drop, cells3_length]; omega
  have hb2g := hb2.block g hgl
  have hcpB : ∀ ty dc sc, (Builtin.copy_ #[24, 24] ty #[.slice (some ⟨w.heap.size, (i + 1) * 3, none⟩) (xs.length + 1 - (i + 1)) dc, .slice (some ⟨g, i * 3, none⟩) (xs.length - i) sc]).run Tryz.prog W2.drew = .ok (goInt (xs.length - i : Nat)) W3 := fun ty dc sc => by
    rw [hW3, hR3, show (i + 1) * 3 = i * 3 + 3 by omega]
    refine run_copy_row3 W2.drew _ _ ty 44 w.heap.size (i * 3 + 3) _ dc ⟨g, i * 3, none⟩ (xs.length - i) sc R2 _ _ Tryz.underlying24 (by rw [hi]; simp [hz1]) hN2 (xs.length - i) ?_ hDl ?_ ?_ (fun v hv => cells3_one xs v (List.mem_of_mem_drop hv))
    · exact (Nat.min_eq_left (show xs.length - i ≤ xs.length + 1 - (i + 1) by omega)).symm
    · intro j u hj
      rw [Addr.add_lit]
      rw [List.getElem?_drop] at hj
      have := hcell _ u hj
      rw [← this]
      exact World.cell?_of_block (w := w) (a := ⟨g, i * 3 + j, none⟩) hb2g
    · rw [hDl]; omega
  have hfin : InsPost B w (xs.take i ++ x :: xs.drop i) (.returned (.slice (some ⟨w.heap.size, 0, none⟩) (xs.length + 1) G)) W3 := by
    have el : (xs.take i ++ x :: xs.drop i).length = xs.length + 1 := by simp; omega
    have ec : cells3 (xs.take i ++ x :: xs.drop i) = (cells3 xs).take (i * 3) ++ cells3 [x] ++ (cells3 xs).drop (i * 3) := by
      rw [show x :: xs.drop i = [x] ++ xs.drop i from rfl, cells3_append, cells3_append, cells3_take, cells3_drop, List.append_assoc]
    obtain ⟨ra, rb⟩ := row_two ((cells3 xs).take (i * 3)) Z (cells3 [x]) ((cells3 xs).drop (i * 3)) (i * 3) 3 ((xs.length - i) * 3) hAl rfl hDl (by rw [hZl]; omega)
    have e2 : R2.toList = ((cells3 xs).take (i * 3) ++ Z).take (i * 3) ++ cells3 [x] ++ ((cells3 xs).take (i * 3) ++ Z).drop (i * 3 + 3) := by rw [hR2, hR1]; rfl
    have e3 : R3'.toList = R2.toList.take (i * 3 + 3) ++ (cells3 xs).drop (i * 3) ++ R2.toList.drop (i * 3 + 3 + (xs.length - i) * 3) := by rw [hR3, hDl]
    rw [e2] at e3
    refine ⟨some ⟨w.heap.size, 0, none⟩, G, by rw [el], ⟨cells3_length _, .inr ⟨w.heap.size, G, R3', by rw [el], hB, ?_, by rw [el]; exact hG1, hG2, ?_, ?_⟩⟩, ?_⟩
    · rw [hW3]; exact setRow_heap _ _ _ _ _ _ hN2
    · have := (congrArg List.length e3).trans rb
      rw [List.length_append, hAl, hZl, Array.length_toList] at this
      have e5 : i * 3 + (G - i) * 3 = G * 3 := by omega
      exact this.trans e5
    · rw [ec, el, e3]
      rw [show (xs.length + 1) * 3 = i * 3 + 3 + (xs.length - i) * 3 by omega]
      exact ra
    · have hb3 : Below w.heap.size w W3 := by
        rw [hW3]; exact hb2.drew.trans ⟨rfl, rfl, rfl, by simp [World.setRow], fun k hk => setRow_other _ _ _ _ (by omega)⟩
      exact hb3.mono hB
  have HF := Lib.hid hfin
  have hbz : ¬ (xs.length = i) := by omega
  have hbz2 : ((i : Int) == (xs.length : Int)) = false := by simp; omega
  have hw1 : IntKind.i64.wrap ((i : Int) + 1) = (i : Int) + 1 := by rw [IntKind.wrap_i64]; omega
  have hw2 : (0 : Int) ≤ (i : Int) + 1 := by omega
  have hw3 : (i : Int) + 1 ≤ (xs.length : Int) + 1 := by omega
  have hw4 : ((i : Int) + 1).toNat = i + 1 := by omega
  have hw5 : i ≤ xs.length := by omega
  have hGi : ¬ (G = i) := by omega
  have hGi1 : ¬ (G = i + 1) := by omega
  unfold maxLen at hG2
  clear hfin hR3 hR2 hR1 hZ hG hik hW2 hW3 hZl hAl hR1s hR2s hDl hb1v hb2g hN1 hN2 hb1 hb2 hnews hcell h4 h3 hh hv
  go_enter Tryz.func124, Tryz.ntmps124
  go_wp2_with (first
    | (at_builtin; refine Lib.wpList_append_run _ rfl _ _ _ _ rfl _ _ rfl rfl _ _ (hrz _) ?_)
    | (refine wpList_copy_run3 _ rfl _ _ 24 24 rfl _ _ rfl rfl (hcpA _ _) ?_))
  go_region_law (refine step_copy_run3 rfl _ _ 24 24 rfl (.slice (some ⟨w.heap.size, (i + 1) * 3, none⟩) (xs.length + 1 - (i + 1)) (G - (i + 1))) (.slice (some ⟨g, i * 3, none⟩) (xs.length - i) (xs.length - i)) (by simp [Act.eval, Act.put]) (by simp [Act.eval, Act.put]) (hcpB _ _ _) ?_)
  go_wp2
  go_ret
  exact HF.out

set_option maxRecDepth 100000 in
set_option maxHeartbeats 4000000 in
/-- Room, not at the end: in place. -/
theorem Insert_shift {i : Nat} (h : RB B 44 w A c xs) (hB : B ≤ w.heap.size) (hv : w.heap[vb]? = some (.cells #[.int .i64 x.a, .int .i64 x.b, .int .i64 x.c] 44 (0, 0))) (hl : xs.length ≤ 1000)
    (hin : i < xs.length) (hroom : xs.length + 1 ≤ c) (hne : A ≠ some ⟨vb, 0, none⟩) :
    Calls Tryz.prog 124 #[.slice A xs.length c, .int .i64 i, .slice (some ⟨vb, 0, none⟩) 1 1] w (InsPost B w (xs.take i ++ x :: xs.drop i)) := by
  obtain ⟨i0, hi, hz0, hz1, hz2⟩ := info_parts info_half
  have hnews := news_at hv
  obtain ⟨g, cur, rfl, hbg, hgl, hh, h1, h2, h3, h4⟩ := h.row (by omega)
  have hvg : vb ≠ g := by rintro rfl; exact hne rfl
  have hcell : ∀ (j : Nat) (u : Value), (cells3 xs)[j]? = some u → w.cell? ⟨g, j, none⟩ = some u := by
    intro j u hj
    have hjl : j < xs.length * 3 := by
      have := (List.getElem?_eq_some_iff.1 hj).1
      rwa [cells3_length] at this
    have h' : w.ownsRow B 44 3 (.slice (some ⟨g, 0, none⟩) xs.length c) xs.length (cells3 xs) := h
    rw [h'.cellAt j hjl]; exact hj
  have hov : ∀ lb cb, (callFunc 142 #[.slice (some ⟨vb, 0, none⟩) 1 1, .slice (some ⟨g, (i + 1) * 3, none⟩) lb cb]).run Tryz.prog w = .ok (.value (.bool false)) w := fun lb cb => by
    rw [run_callFunc_extern Tryz.func142 (by kernel_rfl) (by kernel_rfl) (by kernel_rfl) (e := Extern.SlicesOverlaps.overlaps #[24, 24] #[4]) (by kernel_rfl),
      Lib.run_overlaps_apart w 24 4 44 Tryz.underlying24 3 (fun W => by simp [sizeOf, typeInfo, hi, hz1]) ⟨vb, 0, none⟩ ⟨g, (i + 1) * 3, none⟩ 1 1 lb cb hvg 44 44 3 cur.size
        (by simp [World.shape?, hv]) (by simp [World.shape?, hh]) (by omega) (by simp [World.frozen?, hv]) (by simp [World.frozen?, hv])]
    rfl
  have hDl : ((cells3 xs).drop (i * 3)).length = (xs.length - i) * 3 := by rw [List.length_drop, cells3_length]; omega
  obtain ⟨R2, hR2⟩ : ∃ R2 : Array Value, R2 = (cur.toList.take (i * 3 + 3) ++ (cells3 xs).drop (i * 3) ++ cur.toList.drop (i * 3 + 3 + ((cells3 xs).drop (i * 3)).length)).toArray := ⟨_, rfl⟩
  have hR2s : R2.size = c * 3 := by
    have : R2.toList.length = c * 3 := by
      rw [hR2]; simp only [List.length_append, List.length_take, List.length_drop, Array.length_toList, hDl, h3]
      have := cells3_length xs
      omega
    simpa using this
  obtain ⟨W2, hW2⟩ : ∃ W2, W2 = w.drew.setRow g R2 := ⟨_, rfl⟩
  have hcpB : ∀ ty dc sc, (Builtin.copy_ #[24, 24] ty #[.slice (some ⟨g, (i + 1) * 3, none⟩) (xs.length + 1 - (i + 1)) dc, .slice (some ⟨g, i * 3, none⟩) (xs.length + 1 - i) sc]).run Tryz.prog w.drew = .ok (goInt (xs.length - i : Nat)) W2 := fun ty dc sc => by
    rw [hW2, hR2, show (i + 1) * 3 = i * 3 + 3 by omega]
    refine run_copy_row3 w.drew _ _ ty 44 g (i * 3 + 3) _ dc ⟨g, i * 3, none⟩ (xs.length + 1 - i) sc cur _ _ Tryz.underlying24 (by rw [hi]; simp [hz1]) hh (xs.length - i) ?_ hDl ?_ ?_ (fun v hv => cells3_one xs v (List.mem_of_mem_drop hv))
    · have : xs.length + 1 - (i + 1) = xs.length - i := by omega
      rw [this]; exact (Nat.min_eq_right (show xs.length - i ≤ xs.length + 1 - i by omega)).symm
    · intro j u hj
      rw [Addr.add_lit]
      rw [List.getElem?_drop] at hj
      exact hcell _ u hj
    · rw [hDl]; omega
  have hN2 : W2.heap[g]? = some (.cells R2 44 (0, 0)) := by rw [hW2]; exact setRow_heap _ _ _ _ _ _ hh
  have hv2 : W2.heap[vb]? = some (.cells #[.int .i64 x.a, .int .i64 x.b, .int .i64 x.c] 44 (0, 0)) := by rw [hW2, setRow_other _ _ _ _ hvg]; exact hv
  obtain ⟨R3', hR3⟩ : ∃ R3 : Array Value, R3 = (R2.toList.take (i * 3) ++ cells3 [x] ++ R2.toList.drop (i * 3 + (cells3 [x]).length)).toArray := ⟨_, rfl⟩
  obtain ⟨W3, hW3⟩ : ∃ W3, W3 = W2.setRow g R3' := ⟨_, rfl⟩
  have hcpA : ∀ ty dc, (Builtin.copy_ #[24, 24] ty #[.slice (some ⟨g, i * 3, none⟩) (xs.length + 1 - i) dc, .slice (some ⟨vb, 0, none⟩) 1 1]).run Tryz.prog W2 = .ok (goInt 1) W3 := fun ty dc => by
    rw [hW3, hR3]
    refine run_copy_row3 W2 _ _ ty 44 g (i * 3) _ dc ⟨vb, 0, none⟩ 1 1 R2 _ (cells3 [x]) Tryz.underlying24 (by rw [hi]; simp [hz1]) hN2 1 ?_ rfl (news_at hv2) ?_ (cells3_one _)
    · exact (Nat.min_eq_left (show 1 ≤ xs.length + 1 - i by omega)).symm
    · show i * 3 + 3 ≤ R2.size; omega
  have hfin : InsPost B w (xs.take i ++ x :: xs.drop i) (.returned (.slice (some ⟨g, 0, none⟩) (xs.length + 1) c)) W3 := by
    have el : (xs.take i ++ x :: xs.drop i).length = xs.length + 1 := by simp; omega
    have ec : cells3 (xs.take i ++ x :: xs.drop i) = (cells3 xs).take (i * 3) ++ cells3 [x] ++ (cells3 xs).drop (i * 3) := by
      rw [show x :: xs.drop i = [x] ++ xs.drop i from rfl, cells3_append, cells3_append, cells3_take, cells3_drop, List.append_assoc]
    obtain ⟨ra, rb⟩ := row_shift cur.toList (cells3 [x]) ((cells3 xs).drop (i * 3)) (i * 3) 3 ((xs.length - i) * 3) rfl hDl (by have e : cur.toList.length = cur.size := Array.length_toList; omega)
    have e2 : R2.toList = cur.toList.take (i * 3 + 3) ++ (cells3 xs).drop (i * 3) ++ cur.toList.drop (i * 3 + 3 + (xs.length - i) * 3) := by rw [hR2, hDl]
    have e3 : R3'.toList = R2.toList.take (i * 3) ++ cells3 [x] ++ R2.toList.drop (i * 3 + 3) := by rw [hR3]; rfl
    rw [e2] at e3
    have et : cur.toList.take (i * 3) = (cells3 xs).take (i * 3) := by rw [← h4, List.take_take]; congr 1; omega
    refine ⟨some ⟨g, 0, none⟩, c, by rw [el], ⟨cells3_length _, .inr ⟨g, c, R3', by rw [el], hbg, ?_, by rw [el]; exact hroom, h2, ?_, ?_⟩⟩, ?_⟩
    · rw [hW3]; exact setRow_heap _ _ _ _ _ _ hN2
    · have := (congrArg List.length e3).trans rb
      rw [Array.length_toList, Array.length_toList] at this
      omega
    · rw [ec, el, e3, ← et]
      rw [show (xs.length + 1) * 3 = i * 3 + 3 + (xs.length - i) * 3 by omega]
      exact ra
    · have hb2 : Below B w W2 := by
        rw [hW2]; exact (Below.refl B w).drew.trans ⟨rfl, rfl, rfl, by simp [World.setRow], fun k hk => setRow_other _ _ _ _ (by omega)⟩
      rw [hW3]
      exact hb2.trans ⟨rfl, rfl, rfl, by simp [World.setRow], fun k hk => setRow_other _ _ _ _ (by omega)⟩
  have HF := Lib.hid hfin
  have hbz2 : ((i : Int) == (xs.length : Int)) = false := by simp; omega
  have hw1 : IntKind.i64.wrap ((i : Int) + 1) = (i : Int) + 1 := by rw [IntKind.wrap_i64]; omega
  have hw2 : (0 : Int) ≤ (i : Int) + 1 := by omega
  have hw3 : (i : Int) + 1 ≤ (xs.length : Int) + 1 := by omega
  have hw4 : ((i : Int) + 1).toNat = i + 1 := by omega
  have hw5 : i ≤ xs.length := by omega
  have hw6 : (i : Int) ≤ (xs.length : Int) + 1 := by omega
  have hci : ¬ (c = i) := by omega
  have hci1 : ¬ (c = i + 1) := by omega
  unfold maxLen at h2
  clear hfin hR3 hR2 hW2 hW3 hR2s hDl hN2 hv2 hnews hcell h4 h3 hh hv hvg hne
  go_enter Tryz.func124, Tryz.ntmps124
  go_wp2_with (simp only [hov])
  go_region_law (refine step_copy_run3 rfl _ _ 24 24 rfl (.slice (some ⟨g, (i + 1) * 3, none⟩) (xs.length + 1 - (i + 1)) (c - (i + 1))) (.slice (some ⟨g, i * 3, none⟩) (xs.length + 1 - i) (c - i)) (by simp [Act.eval, Act.put]) (by simp [Act.eval, Act.put]) (hcpB _ _ _) ?_)
  go_wp2_with (refine wpList_copy_run3 _ rfl _ _ 24 24 rfl _ _ rfl rfl (hcpA _ _) ?_)
  go_ret
  exact HF.out

/-- Insert, on whatever road. -/
theorem Insert_any {i : Nat} (h : RB B 44 w A c xs) (hB : B ≤ w.heap.size) (hv : w.heap[vb]? = some (.cells #[.int .i64 x.a, .int .i64 x.b, .int .i64 x.c] 44 (0, 0))) (hl : xs.length ≤ 1000)
    (hin : i ≤ xs.length) (hne : A ≠ some ⟨vb, 0, none⟩) :
    Calls Tryz.prog 124 #[.slice A xs.length c, .int .i64 i, .slice (some ⟨vb, 0, none⟩) 1 1] w (InsPost B w (xs.take i ++ x :: xs.drop i)) := by
  by_cases h1 : i = xs.length
  · subst h1
    rw [List.take_length, List.drop_length]
    exact Insert_end h hB hv hl
  · by_cases h2 : c < xs.length + 1
    · exact Insert_grow h hB hv hl (by omega) h2
    · exact Insert_shift h hB hv hl (by omega) (by omega) hne
end
end Go.Proofs.YtabmfaamadbefaaGreat