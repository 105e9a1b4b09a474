/- A span that the reference draws: a region that draws its order and calls the cursor. Condition: the code has at most 2^20 bytes. -/
import Derived.Test.YtfbfaidblggceaaCm
import Derived.Test.YtfbfaidblggceaaRg
set_option linter.unusedVariables false
set_option linter.unusedSimpArgs false
set_option linter.unusedSectionVars false
namespace Go.Proofs.Ytfbfaidblggceaa
open Go.RowKit

section
variable {E : World → Prop} {K : List (Nat × Nat) × List (Nat × Nat)} {P : Program} {ops : Array Oper} {Q : Exit → Act → World → Prop} {w0 w w' : World} {Rs : List RD} {vs : Nat → Value} {i : Nat} {a a' : Act} {o : Oper} {r : List Oper} {dst : Option Tmp}
/-- An operation with one value, the fact E at hand. -/
theorem wpRelE_purE {n : List Nat} {c : Value} {dst : Option Tmp} (hr : Rs[i]? = some (.pur n c)) (hd : o.dst = dst) (h1 : ∀ w', E w' → (∀ j ∈ n, holds w0 Rs vs j w') → wpList P ops (relEndE E K Rs vs w0 i dst a w') [o] a w') (h2 : wpRelE E K P ops Q w0 Rs vs (i + 1) r (a.put dst c)) : wpRelE E K P ops Q w0 Rs vs i (o :: r) a := by
  subst hd
  have hv : vv Rs vs i = c := by unfold vv; rw [hr]
  subst hv
  refine ⟨fun w' ⟨_, he⟩ hh => ?_, h2⟩
  rw [needOf_at hr rfl] at hh
  exact h1 w' he hh
/-- A call that changes what lies from the base on, and keeps E; its value says G. -/
theorem wpRelE_wild {dst : Option Tmp} {G : World → Value → World → Prop} (hr : Rs[i]? = some (.rel [] [i] true (IsOw G))) (hd : o.dst = dst) (h1 : ∀ w', (∃ x, w' = ov w0 x) → E w' → wpList P ops (relEndE E K Rs vs w0 i dst a w') [o] a w') (h2 : wpRelE E K P ops Q w0 Rs vs (i + 1) r (a.put dst (vs i))) : wpRelE E K P ops Q w0 Rs vs i (o :: r) a := by
  subst hd
  refine wpRelE_cons (fun w' ⟨hw, he⟩ hh => h1 w' hw he) ?_
  rw [vv_rel hr]; exact h2
def RD.flat : RD → Prop
  | .pur _ _ => True
  | .rel _ _ _ F => ∀ w0 l w w', F w0 l w → F w0 l w'
theorem relEndE_wild {v : Value} {G : World → Value → World → Prop} (hr : Rs[i]? = some (.rel [] [i] true (IsOw G))) (ha : a' = a.put dst v) (hb : ∃ x, w' = ov w0 x) (he : E w') (hG : G w0 v w') (hfl : ∀ j, j ≠ i → (j, i) ∉ K.2 → ∀ rj, Rs[j]? = some rj → rj.flat) : relEndE E K Rs vs w0 i dst a w .normal a' w' := by
  refine ⟨v, ha, ?_⟩
  unfold relPostE
  rw [hr]
  refine ⟨⟨hb, he⟩, fun j hj _ hK hh => ?_, v, ?_, hG⟩
  · unfold holds at hh ⊢
    cases hq : Rs[j]? with
    | none => trivial
    | some rm =>
      rw [hq] at hh
      have := hfl j hj hK rm hq
      cases rm with
      | pur _ _ => trivial
      | rel _ _ _ F => exact this _ _ _ _ hh
  · simp [vv, hr, updV]
/-- The last store, into a block made before; E besides. -/
theorem wpRelE_old2 {E2 : World → Prop} {T : TypeId} {j n b : Nat} {s : Tmp} {y : Operand} {u : Value} (hr : Rs[i]? = some (.rel [j] [j] true (IsStB b T)))
    (hop : o.op = .store T (.tmp s) y) (hg : o.guard = none) (hd : o.dst = none) (hji : j ≠ i) (es : a.eval (.tmp s) = .pointer (some ⟨b, 0, none⟩)) (hb : w0.heap.size ≤ b) (hu : vv Rs vs j = u) (et : a.eval y = u) (hn : (P.info? T).map (·.size) = some n)
    (hval : ∀ w, holds w0 Rs vs j w → u.cells.size = n ∧ ∀ x ∈ u.cells.toList, x.oneCell' = true) (hfl : ∀ r ∈ Rs.eraseIdx i, r.flat) (hE2 : ∀ w cur arr, E2 w → w.heap[b]? = some (.cells cur T (0, 0)) → E2 (w.setRow b arr))
    (h2 : wpRelE (fun w => IsOld b T n w ∧ E2 w) K P ops Q w0 Rs vs (i + 1) r a) : wpRelE (fun w => IsOld b T n w ∧ E2 w) K P ops Q w0 Rs vs i (o :: r) a := by
  refine wpRelE_cons (fun w' ⟨hw, ⟨cur, hcs, hblk⟩, he2⟩ hh => ?_) (by rw [hd]; exact h2)
  obtain ⟨x, rfl⟩ := hw
  rw [needOf_at hr rfl] at hh
  have h3 := hval _ (hh j List.mem_cons_self)
  refine wpList_store_blk hg T T (.tmp s) y hop es hblk (by rw [hcs]; exact hn) (by rw [et, h3.1, hcs]) (by rw [et]; exact h3.2) ?_
  refine ⟨undef, rfl, ?_⟩
  unfold relPostE
  rw [hr]
  refine ⟨⟨setRow_ov hb _, ⟨⟨_, by rw [et]; exact h3.1, setRow_heap _ _ _ _ _ _ hblk⟩, hE2 _ _ _ he2 hblk⟩⟩, fun m hm _ _ hmm => ?_, ?_⟩
  · unfold holds at hmm ⊢
    cases hq : Rs[m]? with
    | none => trivial
    | some rm =>
      rw [hq] at hmm
      have := hfl rm (List.mem_eraseIdx_iff_getElem?.2 ⟨m, hm, hq⟩)
      cases rm with
      | pur _ _ => trivial
      | rel _ _ _ F => exact this _ _ _ _ hmm
  · refine ⟨u, ?_, ?_⟩
    · simp only [List.map_cons, List.map_nil]
      rw [vv_upd hji, hu]
    · rw [et]; exact setRow_heap _ _ _ _ _ _ hblk
end
theorem flat_ow {nd js : List Nat} {wd : Bool} {G : World → Value → World → Prop} (h : ∀ w0 v w w', G w0 v w → G w0 v w') : RD.flat (.rel nd js wd (IsOw G)) := fun w0 l w w' ⟨v, e, hG⟩ => ⟨v, e, h _ _ _ _ hG⟩
theorem flat_owned {T : TypeId} {G : World → Value → World → Prop} (h : ∀ w0 v w w', G w0 v w → G w0 v w') : Owned T G := ⟨fun _ _ _ _ => h _ _ _ _, fun _ _ _ _ _ _ _ _ => h _ _ _ _⟩
def GAdd (p : Int) (w0 : World) (v : Value) (w : World) : Prop := ∃ z : Int, v = .int .i64 (p + z) ∧ (0 ≤ z ∧ z < 60)
def GRat (p q : Int) (w0 : World) (v : Value) (w : World) : Prop := ∃ z r s : Int, v = .agg #[.int .i64 r, .int .i64 s] ∧ (0 ≤ z ∧ z < 60) ∧ ratOf (p + z) q = (r, s)
def GSpan (p q : Int) (w0 : World) (v : Value) (w : World) : Prop := ∃ z r s : Int, v = .agg #[.int .i64 p, .int .i64 q, .int .i64 r, .int .i64 s] ∧ (0 ≤ z ∧ z < 60) ∧ ratOf (p + z) q = (r, s)
def GNum (w0 : World) (v : Value) (w : World) : Prop := ∃ z : Int, v = .int .i64 z ∧ (0 ≤ z ∧ z < 60)
theorem fl_add (p : Int) : ∀ w0 v w w', GAdd p w0 v w → GAdd p w0 v w' := fun _ _ _ _ h => h
theorem fl_rat (p q : Int) : ∀ w0 v w w', GRat p q w0 v w → GRat p q w0 v w' := fun _ _ _ _ h => h
theorem fl_span (p q : Int) : ∀ w0 v w w', GSpan p q w0 v w → GSpan p q w0 v w' := fun _ _ _ _ h => h
theorem fl_num : ∀ w0 v w w', GNum w0 v w → GNum w0 v w' := fun _ _ _ _ h => h
/-- What MakeSpan's region keeps: the fraction's box, the cursor, the code. -/
def Kept6 (b6 b c : Nat) (A : Option Addr) (bs : List Int) (p q : Int) (w : World) : Prop := w.heap[b6]? = some (.cells #[.int .i64 p, .int .i64 q] 27 (0, 0)) ∧ CurE b A c bs w ∧ RY w A bs
def SpanPost (w : World) (e : Ending) (w' : World) : Prop := ∃ p q r s : Int, e = .returned (.agg #[.int .i64 p, .int .i64 q, .int .i64 r, .int .i64 s]) ∧ spanOk p q r s = true ∧ (-1000 ≤ p ∧ p ≤ 1000) ∧ (0 < q ∧ q ≤ 1000) ∧ (-1000 ≤ r ∧ r ≤ 1000) ∧ (0 < s ∧ s ≤ 1000) ∧ Below w.heap.size w w'
theorem CurE.setrow {b c r : Nat} {A : Option Addr} {bs : List Int} {w : World} {arr : Array Value} (h : CurE b A c bs w) (hne : b ≠ r) : CurE b A c bs (w.setRow r arr) := by
  obtain ⟨k, h0, hi, hh⟩ := h
  exact ⟨k, h0, hi, (setRow_other hne).trans hh⟩
theorem RY.setrow {w0 w : World} {A : Option Addr} {bs : List Int} {b : Nat} {arr : Array Value} (h : RY w A bs) (h0 : RY w0 A bs) (hb : w0.heap.size ≤ b) : RY (w.setRow b arr) A bs := fun k hk => by
  obtain ⟨g, o, h1, h2, h3, h4⟩ := h k hk
  obtain ⟨g', o', h1', h2', _⟩ := h0 k hk
  have e : g = g' := by rw [h1] at h1'; injection h1' with e; injection e
  have hne : g ≠ b := by omega
  refine ⟨g, o, h1, by simpa [World.setRow] using h2, ?_, h4⟩
  rw [← h3]
  exact World.cell?_of_block (setRow_other hne)

set_option maxHeartbeats 8000000 in
theorem MakeSpan_any {c : Nat} {A : Option Addr} {bs : List Int} {n : Int} {w : World} (R : RY w A bs) (hl : bs.length ≤ 1048576) (hn : 0 ≤ n ∧ n ≤ 1000) :
    Calls Try.prog 13 #[.slice A bs.length c, .int .i64 n] w (SpanPost w) := by
  go_enter Try.func13, Try.ntmps13
  go_wp2_with fail
  obtain ⟨W0, hW⟩ : ∃ W0, w.alloc (.cells #[.int .i64 0, .int .i64 0, .int .i64 0, .int .i64 0] 29) = W0 := ⟨_, rfl⟩
  rw [hW]
  have T0 : Below w.heap.size w W0 := by rw [← hW]; exact (by repeat (first | exact bR | refine bO ?_ | refine bA ?_ | refine bS ?_ | refine bD ?_ | refine bN ?_))
  have X : Hid (W0.heap[w.heap.size]? = some (.cells #[.int .i64 0, .int .i64 0, .int .i64 0, .int .i64 0] 29 (0, 0))) := Lib.hid (by rw [← hW]; exact heap_alloc_new _ _)
  have R0 := R.below T0
  have s0 : w.heap.size < W0.heap.size := (Array.getElem?_eq_some_iff.1 X.out).1
  clear hW
  refine (l26New_any R0 hl hn).mono ?_
  rintro e W1 ⟨b, rfl, hb, C, K⟩
  have R1 := R0.below K
  have T1 : Below w.heap.size w W1 := T0.trans (K.mono T0.size)
  have X1 : Hid (W1.heap[w.heap.size]? = some (.cells #[.int .i64 0, .int .i64 0, .int .i64 0, .int .i64 0] 29 (0, 0))) := Lib.hid ((K.block _ s0).trans X.out)
  have hne : some w.heap.size ≠ some b := fun e => by injection e with e; omega
  have hge : w.heap.size ≤ b := by omega
  clear R0 K X T0
  go_wp2_with fail
  refine (l02Draw_any R1 C hl).mono ?_
  rintro e W2 ⟨⟨p, q, rfl, ok, hp, hq⟩, C2, R2, K⟩
  have T2 := gb_low T1 K hge (Nat.le_refl _)
  have X2 : Hid (W2.heap[w.heap.size]? = some (.cells #[.int .i64 0, .int .i64 0, .int .i64 0, .int .i64 0] 29 (0, 0))) := Lib.hid ((K.block w.heap.size (Array.getElem?_eq_some_iff.1 X1.out).1 hne).trans X1.out)
  clear R1 C K X1 T1
  go_wp2
  obtain ⟨W3, hW⟩ : ∃ W3, W2.alloc (.cells #[.int .i64 p, .int .i64 q] 27) = W3 := ⟨_, rfl⟩
  rw [hW]
  have T3 : Below w.heap.size w W3 := by rw [← hW]; exact T2.alloc T2.size _
  have TA : Below W2.heap.size W2 W3 := by rw [← hW]; exact (by repeat (first | exact bR | refine bO ?_ | refine bA ?_ | refine bS ?_ | refine bD ?_ | refine bN ?_))
  have hX3 : W3.heap[W2.heap.size]? = some (.cells #[.int .i64 p, .int .i64 q] 27 (0, 0)) := by rw [← hW]; exact heap_alloc_new _ _
  have X3 := (TA.block w.heap.size (Array.getElem?_eq_some_iff.1 X2.out).1).trans X2.out
  have C3 := C2.below TA
  have R3 := R2.below TA
  have ho2 := (Array.getElem?_eq_some_iff.1 X2.out).1
  have hb2 := C2.lt
  have hc6 : w.heap.size ≠ W2.heap.size := by omega
  have hcb : w.heap.size ≠ b := fun e => hne (by rw [e])
  have hb6 : W2.heap.size ≠ b := by omega
  have hg6 : w.heap.size ≤ W2.heap.size := by omega
  clear hW X2 C2 R2 T2 TA ho2 hb2 hne
  generalize W2.heap.size = b6 at hX3 hc6 hb6 hg6 ⊢
  obtain ⟨bo, hbo⟩ : ∃ r, w.heap.size = r := ⟨_, rfl⟩
  have hgo : w.heap.size ≤ bo := by omega
  rw [hbo] at X3 hc6 hcb
  have FL : ∀ r ∈ ([.pur [] (.agg #[.int .i64 p, .int .i64 q]), .pur [] (.pointer (some ⟨b6, 0, none⟩)), .pur [] (.int .i64 p), .pur [] (.pointer (some ⟨b, 0, none⟩)), .rel [] [4] true (IsOw GNum), .rel [4] [5] false (IsOw (GAdd p)), .pur [] (.pointer (some ⟨b6, 1, none⟩)), .pur [] (.int .i64 q), .rel [5] [8] false (IsOw (GRat p q)), .rel [8] [9] false (IsOw (GSpan p q))] : List RD), r.flat := (by repeat (first | exact all_nil | refine all_cons trivial ?_ | refine all_cons (flat_ow (by first | exact fl_num | exact fl_add _ | exact fl_rat _ _ | exact fl_span _ _)) ?_))
  have O5 := flat_owned (T := 29) (fl_add p)
  have O8 := flat_owned (T := 29) (fl_rat p q)
  have O9 := flat_owned (T := 29) (fl_span p q)
  have O4 := flat_owned (T := 29) fl_num
  rw [hbo]
  refine wp_region_relE (fun w' => IsOld bo 29 4 w' ∧ Kept6 b6 b c A bs p q w') ([], [(10, 4)]) (w := w) [.pur [] (.agg #[.int .i64 p, .int .i64 q]), .pur [] (.pointer (some ⟨b6, 0, none⟩)), .pur [] (.int .i64 p), .pur [] (.pointer (some ⟨b, 0, none⟩)), .rel [] [4] true (IsOw GNum), .rel [4] [5] false (IsOw (GAdd p)), .pur [] (.pointer (some ⟨b6, 1, none⟩)), .pur [] (.int .i64 q), .rel [5] [8] false (IsOw (GRat p q)), .rel [8] [9] false (IsOw (GSpan p q)), .rel [9] [9] true (IsStB bo 29)] _ rfl rfl (by kernel_rfl) (by kernel_rfl) (by kernel_rfl) (by kernel_rfl) (by repeat (first | exact all_nil | refine all_cons trivial ?_ | refine all_cons isAl_stable ?_ | refine all_cons isSt_stable ?_ | refine all_cons isStB_stable ?_ | refine all_cons (isOw_stable (by assumption)) ?_)) (fun w' x h => ⟨isOld_ov _ _ h.1, ov_blk h.2.1, h.2.2.1.ov x, h.2.2.2.ov x⟩) (ov_of_below T3) ⟨⟨_, rfl, X3⟩, hX3, C3, R3⟩ (fun vs => ?_)
  refine wpRelE_purE (c := .agg #[.int .i64 p, .int .i64 q]) rfl rfl (fun w' he hh => ?_) ?_
  · obtain ⟨hO, hX, hC, hR⟩ := he
    have x0 := cell_blk (j := 0) (v := .int .i64 p) hX rfl
    have x1 := cell_blk (j := 1) (v := .int .i64 q) hX rfl
    have xl := (Array.getElem?_eq_some_iff.1 hX).1
    go_wp2
    refine relEndE_pur rfl ?_ (by repeat (first | exact bR | refine bO ?_ | refine bA ?_ | refine bS ?_ | refine bD ?_ | refine bN ?_))
    (simp only [Act.put, List.setIfInBounds_toArray, List.set_cons_succ, List.set_cons_zero] <;> rfl)
  simp only [Act.put, List.setIfInBounds_toArray, List.set_cons_succ, List.set_cons_zero]
  refine wpRelE_purE (c := .pointer (some ⟨b6, 0, none⟩)) rfl rfl (fun w' he hh => ?_) ?_
  · obtain ⟨hO, hX, hC, hR⟩ := he
    go_wp2
    refine relEndE_pur rfl ?_ (by repeat (first | exact bR | refine bO ?_ | refine bA ?_ | refine bS ?_ | refine bD ?_ | refine bN ?_))
    (simp only [Act.put, List.setIfInBounds_toArray, List.set_cons_succ, List.set_cons_zero] <;> rfl)
  simp only [Act.put, List.setIfInBounds_toArray, List.set_cons_succ, List.set_cons_zero]
  refine wpRelE_purE (c := .int .i64 p) rfl rfl (fun w' he hh => ?_) ?_
  · obtain ⟨hO, hX, hC, hR⟩ := he
    have x0 := cell_blk (j := 0) (v := .int .i64 p) hX rfl
    have x1 := cell_blk (j := 1) (v := .int .i64 q) hX rfl
    have xl := (Array.getElem?_eq_some_iff.1 hX).1
    go_wp2
    refine relEndE_pur rfl ?_ (by repeat (first | exact bR | refine bO ?_ | refine bA ?_ | refine bS ?_ | refine bD ?_ | refine bN ?_))
    (simp only [Act.put, List.setIfInBounds_toArray, List.set_cons_succ, List.set_cons_zero] <;> rfl)
  simp only [Act.put, List.setIfInBounds_toArray, List.set_cons_succ, List.set_cons_zero]
  refine wpRelE_purE (c := .pointer (some ⟨b, 0, none⟩)) rfl rfl (fun w' he hh => ?_) ?_
  · obtain ⟨hO, hX, hC, hR⟩ := he
    go_wp2
    refine relEndE_pur rfl ?_ (by repeat (first | exact bR | refine bO ?_ | refine bA ?_ | refine bS ?_ | refine bD ?_ | refine bN ?_))
    (simp only [Act.put, List.setIfInBounds_toArray, List.set_cons_succ, List.set_cons_zero] <;> rfl)
  simp only [Act.put, List.setIfInBounds_toArray, List.set_cons_succ, List.set_cons_zero]
  refine wpRelE_wild rfl rfl (fun w' hw he => ?_) ?_
  · obtain ⟨⟨cur, hO1, hO2⟩, hX, hC, hR⟩ := he
    have hbw : Below w.heap.size w w' := by obtain ⟨x, rfl⟩ := hw; exact below_ov _ _ (Below.refl _ _) (Nat.le_refl _)
    go_wp2_with fail
    refine (below_small hR hC hl ⟨by omega, by omega⟩).mono ?_
    rintro e W9 ⟨z, rfl, hz, C9, K9⟩
    have E9 : IsOld bo 29 4 W9 ∧ Kept6 b6 b c A bs p q W9 := ⟨⟨cur, hO1, (K9.block bo (Array.getElem?_eq_some_iff.1 hO2).1 (fun e => hcb (by injection e))).trans hO2⟩, (K9.block b6 (Array.getElem?_eq_some_iff.1 hX).1 (fun e => hb6 (by injection e))).trans hX, C9, hR.thru hC K9⟩
    have T9 := ov_of_below (gb_low hbw K9 hge (Nat.le_refl _))
    clear hO1 hO2 hX hC hR K9
    go_wp2
    refine relEndE_wild rfl ?_ T9 E9 ⟨z, rfl, hz⟩ (fun j hj hK rj hq => ?_)
    · (simp only [Act.put, List.setIfInBounds_toArray, List.set_cons_succ, List.set_cons_zero] <;> rfl)
    · have hm : j < 11 := (List.getElem?_eq_some_iff.1 hq).1
      have h10 : j ≠ 10 := by rintro rfl; exact hK (by simp)
      refine FL rj (List.mem_of_getElem? (i := j) ?_)
      rw [← hq]
      have : j < 10 := by omega
      rcases j with _ | _ | _ | _ | _ | _ | _ | _ | _ | _ | j <;> first | rfl | omega
  simp only [Act.put, List.setIfInBounds_toArray, List.set_cons_succ, List.set_cons_zero]
  refine wpRelE_own rfl rfl rfl (fun x hh => ?_) ?_
  · obtain ⟨z, f4, hz⟩ := isOw_at (hh 4 (by simp)) rfl
    simp only [f4]
    go_wp2
    refine relEndE_own rfl rfl ?_ (by repeat (first | exact bR | refine bO ?_ | refine bA ?_ | refine bS ?_ | refine bD ?_ | refine bN ?_)) ⟨z, rfl, hz⟩
    (simp only [Act.put, List.setIfInBounds_toArray, List.set_cons_succ, List.set_cons_zero] <;> rfl)
  simp only [Act.put, List.setIfInBounds_toArray, List.set_cons_succ, List.set_cons_zero]
  refine wpRelE_purE (c := .pointer (some ⟨b6, 1, none⟩)) rfl rfl (fun w' he hh => ?_) ?_
  · obtain ⟨hO, hX, hC, hR⟩ := he
    go_wp2
    refine relEndE_pur rfl ?_ (by repeat (first | exact bR | refine bO ?_ | refine bA ?_ | refine bS ?_ | refine bD ?_ | refine bN ?_))
    (simp only [Act.put, List.setIfInBounds_toArray, List.set_cons_succ, List.set_cons_zero] <;> rfl)
  simp only [Act.put, List.setIfInBounds_toArray, List.set_cons_succ, List.set_cons_zero]
  refine wpRelE_purE (c := .int .i64 q) rfl rfl (fun w' he hh => ?_) ?_
  · obtain ⟨hO, hX, hC, hR⟩ := he
    have x0 := cell_blk (j := 0) (v := .int .i64 p) hX rfl
    have x1 := cell_blk (j := 1) (v := .int .i64 q) hX rfl
    have xl := (Array.getElem?_eq_some_iff.1 hX).1
    go_wp2
    refine relEndE_pur rfl ?_ (by repeat (first | exact bR | refine bO ?_ | refine bA ?_ | refine bS ?_ | refine bD ?_ | refine bN ?_))
    (simp only [Act.put, List.setIfInBounds_toArray, List.set_cons_succ, List.set_cons_zero] <;> rfl)
  simp only [Act.put, List.setIfInBounds_toArray, List.set_cons_succ, List.set_cons_zero]
  refine wpRelE_own rfl rfl rfl (fun x hh => ?_) ?_
  · obtain ⟨z, f5, hz⟩ := isOw_at (hh 5 (by simp)) rfl
    simp only [f5]
    obtain ⟨⟨r, s⟩, hrs⟩ : ∃ v, ratOf (p + z) q = v := ⟨_, rfl⟩
    go_wp2_with fail
    refine (spec_RatioOf_eq (Lib.hid hrs) ⟨by omega, by omega⟩ ⟨by omega, by omega⟩).mono ?_
    rintro e w9 ⟨rfl, hb9⟩
    go_wp2
    refine relEndE_own rfl rfl ?_ hb9 ⟨z, r, s, rfl, hz, hrs⟩
    (simp only [Act.put, List.setIfInBounds_toArray, List.set_cons_succ, List.set_cons_zero] <;> rfl)
  simp only [Act.put, List.setIfInBounds_toArray, List.set_cons_succ, List.set_cons_zero]
  refine wpRelE_own rfl rfl rfl (fun x hh => ?_) ?_
  · obtain ⟨z, r, s, f8, hz, hrs⟩ := isOw_at (hh 8 (by simp)) rfl
    simp only [f8]
    go_wp2
    refine relEndE_own rfl rfl ?_ (by repeat (first | exact bR | refine bO ?_ | refine bA ?_ | refine bS ?_ | refine bD ?_ | refine bN ?_)) ⟨z, r, s, rfl, hz, hrs⟩
    (simp only [Act.put, List.setIfInBounds_toArray, List.set_cons_succ, List.set_cons_zero] <;> rfl)
  simp only [Act.put, List.setIfInBounds_toArray, List.set_cons_succ, List.set_cons_zero]
  refine wpRelE_old2 rfl rfl rfl rfl (by decide) rfl hgo (vv_rel rfl) rfl (by kernel_rfl) (fun w' hw => by obtain ⟨z, r, s, f9, _⟩ := isOw_at hw rfl; rw [f9]; exact ⟨rfl, by simp [Value.cells, Value.oneCell']⟩) FL (fun w' cur arr h hB => ⟨(setRow_other (Ne.symm hc6)).trans h.1, h.2.1.setrow (Ne.symm hcb), h.2.2.setrow R hgo⟩) ?_
  refine wpRelE_nil (fun W hbW hE hh => ?_)
  obtain ⟨z, r, s, f9, hz, hrs⟩ := isOw_at (hh 9 (by intro k hk; simp at hk)) rfl
  have hXf := isStB_own (hh 10 (by intro k hk; simp at hk)) rfl rfl
  rw [f9] at hXf
  obtain ⟨hs1, hs2, hs3⟩ := span_up hz ok hp hq hrs
  clear hE hh FL O4 O5 O8 O9
  have c0 := cell_blk (j := 0) (v := .int .i64 p) hXf rfl
  have c1 := cell_blk (j := 1) (v := .int .i64 q) hXf rfl
  have c2 := cell_blk (j := 2) (v := .int .i64 r) hXf rfl
  have c3 := cell_blk (j := 3) (v := .int .i64 s) hXf rfl
  have lr := (Array.getElem?_eq_some_iff.1 hXf).1
  go_wp2
  refine bodyPost_ret (v := .agg #[.int .i64 p, .int .i64 q, .int .i64 r, .int .i64 s]) (by simp [results, Try.results13, go_sem, c0, c1, c2, c3, lr]) rfl ⟨p, q, r, s, rfl, hs1, ⟨by omega, by omega⟩, hq, hs2, hs3, hbW⟩
end Go.Proofs.Ytfbfaidblggceaa
