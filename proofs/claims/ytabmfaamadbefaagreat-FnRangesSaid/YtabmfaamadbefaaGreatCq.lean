/- Copies of rows and of rooms, of the program and of the reference. Condition: rows of at most 2^20. -/
import Derived.Test.YtabmfaamadbefaaGreatRw
import Derived.Test.YtabmfaamadbefaaGreatRd
import Derived.Test.YtabmfaamadbefaaGreatGp
set_option linter.unusedVariables false
set_option linter.unusedSimpArgs false
set_option linter.unusedSectionVars false
namespace Go.Proofs.YtabmfaamadbefaaGreat
open Go.ChangeShapes Go.WideShapes Go.ChangeAt Go.RowKit Go.Joins
theorem RB.thru {B b : Nat} {E T : TypeId} {w w' : World} {A : Option Addr} {c : Nat} {xs : List H3} {arr : Array Value} {fr : Nat × Nat} (h : RB B E w A c xs) (K : w.grownBy w' (some b)) (hb : w.heap[b]? = some (.cells arr T fr)) (hT : T ≠ E) : RB B E w' A c xs := by
  refine ⟨h.1, ?_⟩
  rcases h.2 with e | ⟨g, cap, cu, e1, hgB, hh, hr⟩
  · exact .inl e
  · refine .inr ⟨g, cap, cu, e1, hgB, (K.block g (Array.getElem?_eq_some_iff.1 hh).1 (fun e => ?_)).trans hh, hr⟩
    injection e with e
    subst e
    rw [hh] at hb
    injection hb with hb; injection hb with _ hb; exact hT hb.symm
theorem RN.thru {B b : Nat} {T : TypeId} {w w' : World} {A : Option Addr} {c : Nat} {xs : List Int} {arr : Array Value} {fr : Nat × Nat} (h : RN B w A c xs) (K : w.grownBy w' (some b)) (hb : w.heap[b]? = some (.cells arr T fr)) (hT : T ≠ 3) : RN B w' A c xs := by
  refine ⟨h.1, ?_⟩
  rcases h.2 with e | ⟨g, cap, cu, e1, hgB, hh, hr⟩
  · exact .inl e
  · refine .inr ⟨g, cap, cu, e1, hgB, (K.block g (Array.getElem?_eq_some_iff.1 hh).1 (fun e => ?_)).trans hh, hr⟩
    injection e with e
    subst e
    rw [hh] at hb
    injection hb with hb; injection hb with _ hb; exact hT hb.symm
theorem box_thru {W W' : World} {b k : Nat} {o : Obj} (h : Hid (W.heap[k]? = some o)) (K : W.grownBy W' (some b)) (hne : k ≠ b) : Hid (W'.heap[k]? = some o) := box_grown_i h K (fun e => hne (by injection e))
theorem k8 {w : World} {b : Nat} {v0 v1 v2 v3 v4 v5 v6 v7 : Value} : w.grownBy ((((((((w.setCell ⟨b, 0, none⟩ v0).setCell ⟨b, 1, none⟩ v1).setCell ⟨b, 2, none⟩ v2).setCell ⟨b, 3, none⟩ v3).setCell ⟨b, 4, none⟩ v4).setCell ⟨b, 5, none⟩ v5).setCell ⟨b, 6, none⟩ v6).setCell ⟨b, 7, none⟩ v7) (some b) :=
  grownBy_set (grownBy_set (grownBy_set (grownBy_set (grownBy_set (grownBy_set (grownBy_set (grownBy_set (grownBy_of_below (Below.refl _ _)))))))))
theorem below8 {B : Nat} {w0 w : World} {b : Nat} {v0 v1 v2 v3 v4 v5 v6 v7 : Value} (h : Below B w0 w) (hb : B ≤ b) : Below B w0 ((((((((w.setCell ⟨b, 0, none⟩ v0).setCell ⟨b, 1, none⟩ v1).setCell ⟨b, 2, none⟩ v2).setCell ⟨b, 3, none⟩ v3).setCell ⟨b, 4, none⟩ v4).setCell ⟨b, 5, none⟩ v5).setCell ⟨b, 6, none⟩ v6).setCell ⟨b, 7, none⟩ v7) :=
  (((((((h.setCell hb _).setCell hb _).setCell hb _).setCell hb _).setCell hb _).setCell hb _).setCell hb _).setCell hb _

/-- append(s, x...) on rows of half planes, long ones too. -/
theorem wpList_append_long {ops : Array Oper} {rest : List Oper} {o : Oper} {a : Act} {Q : Exit → Act → World → Prop} {w : World} (hgd : o.guard = none) (s x : Operand)
    (ho : o.op = .call { callee := .builtin .append, args := #[s, x], argTypes := #[24, 24] }) (B : Nat) {A A2 : Option Addr} {c c2 : Nat} {os xs : List H3}
    (hs : a.eval s = .slice A os.length c) (hown : RB B 44 w A c os) (hx : a.eval x = .slice A2 xs.length c2) (src : R3 44 w A2 c2 xs) (hl : os.length + xs.length ≤ 3000000) (hB : B ≤ w.heap.size)
    (h : ∀ A' c' w', RB B 44 w' A' c' (os ++ xs) → Hid (∀ {w0 : World}, Below B w0 w → B ≤ w0.heap.size → Below B w0 w') → wpList Tryz.prog ops Q rest (a.put o.dst (.slice A' (os.length + xs.length) c')) w') : wpList Tryz.prog ops Q (o :: rest) a w := by
  obtain ⟨i0, hi, hz0, hz1, hz2⟩ := info_parts info_half
  rcases src.2 with ⟨e, e0⟩ | ⟨g, cap, cur, e, _⟩
  · injection e with e1 e2 e3
    subst e1 e3
    have hx0 : xs = [] := List.length_eq_zero_iff.1 e2
    subst hx0
    refine wpList_append_own_none (P := Tryz.prog) hgd s x 24 ho B 44 i0 3 Tryz.underlying24 hi _ _ _ hs hown hx ?_
    exact h A c w (by rw [List.append_nil]; exact hown) (Lib.hid fun h _ => h)
  · injection e with e1 e2 e3
    subst e1 e3
    refine wpList_append_own (P := Tryz.prog) w hgd s x 24 ho B 44 i0 (.agg #[.int .i64 0, .int .i64 0, .int .i64 0]) 3 24 Tryz.underlying24 hi hz0 hz1 hz2 rfl (by decide) _ _ _ hs hown ⟨g, 0, none⟩ xs.length c2 (cells3 xs) hx (cells3_length _) (news_row src) (cells3_one _) (by unfold maxLen; omega) (by omega) hB ?_
    intro v' w' O hg _
    have O' : w'.ownsRow B 44 3 v' (os ++ xs).length (cells3 (os ++ xs)) := by rw [cells3_append, List.length_append]; exact O
    obtain ⟨A', c', rfl, R⟩ := own_slice O'
    rw [List.length_append]
    exact h A' c' w' R (Lib.hid fun hb hB0 => grown_below hb hg (fun k hk => (hown.lt k hk).1) hB0)

set_option maxRecDepth 100000 in
theorem Clone_long {xs : List H3} {A : Option Addr} {c : Nat} {w : World} (R : R3 44 w A c xs) (hl : xs.length ≤ 1048576) :
    Calls Tryz.prog 57 #[.slice A xs.length c] w (InsPost w.heap.size w xs) := by
  rcases R.2 with ⟨e, _⟩ | ⟨g, cap, cur, e, _⟩
  · injection e with e1 e2 e3
    subst e1 e3
    have hx : xs = [] := List.length_eq_zero_iff.1 e2
    subst hx
    have hn : (binOp .eql 24 (.slice none 0 0) (.slice none 0 0)).run Tryz.prog w = .ok (.bool (none : Option Addr).isNone) w := Lib.run_eql_slice_nil w _ _ _ _ _ _ _ Tryz.underlying24
    clear R
    go_enter Tryz.func57, Tryz.ntmps57
    go_wp2
    go_ret
    exact ⟨none, 0, rfl, RB.nil _ _ _, Below.refl _ _⟩
  · injection e with e1 e2 e3
    subst e1 e3
    have hn : (binOp .eql 24 (.slice (some ⟨g, 0, none⟩) xs.length c) (.slice none 0 0)).run Tryz.prog w = .ok (.bool (some (⟨g, 0, none⟩ : Addr)).isNone) w := Lib.run_eql_slice_nil w _ _ _ _ _ _ _ Tryz.underlying24
    go_enter Tryz.func57, Tryz.ntmps57
    go_wp2_with (at_builtin; refine wpList_append_long (os := []) (xs := xs) rfl _ _ rfl w.heap.size rfl (RB.new0 (by simp) (by simp) rfl) rfl (R3.alloc R _) (by simp; omega) (by simp) ?_; intro A1 c1 w1 R1 B1; rw [List.nil_append] at R1; have hb1 : Below w.heap.size w w1 := B1.out (by repeat (first | exact bR | refine bO ?_ | refine bA ?_ | refine bS ?_ | refine bD ?_ | refine bN ?_)) (by simp))
    go_ret
    refine ⟨A1, c1, ?_, R1, hb1⟩
    simp
set_option maxHeartbeats 2000000 in
theorem copyRegion_long {xs : List H3} {A : Option Addr} {c : Nat} {w : World} (R : R3 44 w A c xs) (hl : xs.length ≤ 1048576) :
    Calls Tryz.prog 47 #[.agg #[.slice A xs.length c]] w (RegOut w xs) := by
  go_enter Tryz.func47, Tryz.ntmps47
  go_wp2_with fail
  refine (Clone_long (R.below (by repeat (first | exact bR | refine bO ?_ | refine bA ?_ | refine bS ?_ | refine bD ?_ | refine bN ?_))) hl).mono ?_
  rintro e w1 ⟨A1, c1, rfl, R1, hb1⟩
  have hbw : Below w.heap.size w w1 := Below.trans (by repeat (first | exact bR | refine bO ?_ | refine bA ?_ | refine bS ?_ | refine bD ?_ | refine bN ?_)) (hb1.mono (by simp; omega))
  have HX := Lib.hid ((hb1.block (w.heap.size + 1) (by simp)).trans (heap_new_at (r := some (.cells #[.slice none 0 0] 26 (0, 0))) (by simp) rfl))
  have HR1 := R1.weak (B' := w.heap.size) (by simp; omega)
  clear R1 hb1
  have hb2 : w.heap.size ≤ w.heap.size + 1 := by omega
  generalize w.heap.size + 1 = b4 at HX hb2 ⊢
  have x2 := cell_blk (j := 0) (v := .slice none 0 0) HX.out rfl
  have f2 := frozen_blk (j := 0) HX.out
  have l2 := (Array.getElem?_eq_some_iff.1 HX.out).1
  go_wp2
  refine bodyPost_ret (v := .agg #[.slice A1 xs.length c1]) (by simp [results, Tryz.results47, go_sem, x2, l2]) rfl ⟨A1, c1, rfl, HR1.set_box HX.out (by decide), hbw.setCell (show w.heap.size ≤ b4 from hb2) _⟩
/-- A copied row of ints. -/
def IntsPost (w : World) (xs : List Int) (e : Ending) (w' : World) : Prop := ∃ A c, e = .returned (.slice A xs.length c) ∧ RN w.heap.size w' A c xs ∧ Below w.heap.size w w'
set_option maxRecDepth 100000 in
theorem CloneI_any {xs : List Int} {A : Option Addr} {c : Nat} {w : World} (R : RI w A xs) (hl : 0 < xs.length ∧ xs.length ≤ 1048576) :
    Calls Tryz.prog 86 #[.slice A xs.length c] w (IntsPost w xs) := by
  obtain ⟨g, o, rfl, _⟩ := R 0 hl.1
  have hn : (binOp .eql 23 (.slice (some ⟨g, o, none⟩) xs.length c) (.slice none 0 0)).run Tryz.prog w = .ok (.bool (some (⟨g, o, none⟩ : Addr)).isNone) w := Lib.run_eql_slice_nil w _ _ _ _ _ _ _ Tryz.underlying23
  have hl2 := hl.2
  go_enter Tryz.func86, Tryz.ntmps86
  go_wp2_with (at_builtin; refine wpList_append_ints (os := []) (xs := xs) rfl _ _ rfl w.heap.size rfl (RN.new0 (by simp) (by simp) rfl) rfl (R.below (by repeat (first | exact bR | refine bO ?_ | refine bA ?_ | refine bS ?_ | refine bD ?_ | refine bN ?_))) (by simp; omega) (by simp) ?_; intro A1 c1 w1 R1 B1; rw [List.nil_append] at R1; have hb1 : Below w.heap.size w w1 := B1.out (by repeat (first | exact bR | refine bO ?_ | refine bA ?_ | refine bS ?_ | refine bD ?_ | refine bN ?_)) (by simp))
  go_ret
  refine ⟨A1, c1, ?_, R1, hb1⟩
  simp

set_option maxRecDepth 100000 in
set_option maxHeartbeats 8000000 in
theorem copyRoom_any {r : RoomV} {Ar1 Ar2 Ar3 : Option Addr} {cr1 cr2 cr3 : Nat} {w : World}  (Rr : RM w r Ar1 Ar2 cr2 Ar3 cr3) (hsr : r.Short) (h4 : 0 < r.m.length) :
    Calls Tryz.prog 45 #[.agg #[.slice Ar1 r.m.length cr1, .int .i64 r.q, .int .i64 r.bx, .int .i64 r.by_, .int .i64 r.lo, .int .i64 r.hi, .slice Ar2 r.ns.length cr2, .slice Ar3 r.ls.length cr3]] w (CopyPost w r) := by
  have k1 := hsr.m
  have k2 := hsr.ns
  have k3 := hsr.ls
  go_enter Tryz.func45, Tryz.ntmps45
  go_wp2_with fail
  obtain ⟨V, hV⟩ : ∃ V, V = w := ⟨_, rfl⟩
  have TV : Below w.heap.size w V := by rw [hV]; exact Below.refl _ _
  have s0 : w.heap.size ≤ V.heap.size := TV.size
  obtain ⟨W0, hW⟩ : ∃ W0, W0 = ((w.alloc (.cells #[.slice Ar1 r.m.length cr1, .int .i64 r.q, .int .i64 r.bx, .int .i64 r.by_, .int .i64 r.lo, .int .i64 r.hi, .slice Ar2 r.ns.length cr2, .slice Ar3 r.ls.length cr3] 28)).alloc (.cells #[.slice none 0 0, .int .i64 0, .int .i64 0, .int .i64 0, .int .i64 0, .int .i64 0, .slice none 0 0, .slice none 0 0] 28)) := ⟨_, rfl⟩
  rw [← hW]
  have T : Below V.heap.size V W0 := by rw [hW, hV]; exact (by repeat (first | exact bR | refine bO ?_ | refine bA ?_ | refine bS ?_ | refine bD ?_ | refine bN ?_))
  have X0 : W0.heap[w.heap.size]? = some (.cells #[.slice Ar1 r.m.length cr1, .int .i64 r.q, .int .i64 r.bx, .int .i64 r.by_, .int .i64 r.lo, .int .i64 r.hi, .slice Ar2 r.ns.length cr2, .slice Ar3 r.ls.length cr3] 28 (0, 0)) := by rw [hW]; exact ((heap_old_at (by first | (simp; done) | (simp <;> omega))).trans (heap_new_at (by first | (simp; done) | (simp <;> omega)) rfl))
  have hbb0 : V.heap.size ≤ w.heap.size := by rw [hV]; omega
  have X1 : W0.heap[w.heap.size + 1]? = some (.cells #[.slice none 0 0, .int .i64 0, .int .i64 0, .int .i64 0, .int .i64 0, .int .i64 0, .slice none 0 0, .slice none 0 0] 28 (0, 0)) := by rw [hW]; exact (heap_new_at (by first | (simp; done) | (simp <;> omega)) rfl)
  have hbb1 : V.heap.size ≤ w.heap.size + 1 := by rw [hV]; omega
  have hne01 : w.heap.size ≠ w.heap.size + 1 := by omega
  have hne10 : w.heap.size + 1 ≠ w.heap.size := by omega
  clear hW hV
  generalize w.heap.size + 1 = ba1 at X1 hbb1 hne01 hne10 ⊢
  obtain ⟨ba0, hba0⟩ : ∃ b, w.heap.size = b := ⟨_, rfl⟩
  rw [hba0] at X0 hbb0 hne01 hne10
  try rw [hba0]
  have Br := Lib.hid X0
  clear X0
  have Bo := Lib.hid X1
  clear X1
  have Sr := Rr.below (TV.trans (T.mono s0))
  refine (CloneI_any (Sr.mr.below (by repeat (first | exact bR | refine bO ?_ | refine bA ?_ | refine bS ?_ | refine bD ?_ | refine bN ?_))) ⟨h4, k1⟩).mono ?_
  rintro e W1 ⟨ai, di, rfl, Xi, hb⟩
  have K : Below W0.heap.size W0 W1 := Below.trans (by repeat (first | exact bR | refine bO ?_ | refine bA ?_ | refine bS ?_ | refine bD ?_ | refine bN ?_)) (hb.mono (by first | exact Nat.le_refl _ | simp [ov_size]))
  clear hb
  replace Xi := Xi.weak (B' := V.heap.size) (by have := T.size; (try simp [ov_size]); omega)
  replace T := T.trans (K.mono T.size)
  replace Br := box_below Br K
  replace Bo := box_below Bo K
  clear K Sr
  have Sr := Rr.below (TV.trans (T.mono s0))
  obtain ⟨Brc0, Brc1, Brc2, Brc3, Brc4, Brc5, Brc6, Brc7, Brl⟩ := cb8 Br
  obtain ⟨Boc0, Boc1, Boc2, Boc3, Boc4, Boc5, Boc6, Boc7, Bol⟩ := cb8 Bo
  have Brf0 := frozen_blk (j := 0) Br.out
  have Brf1 := frozen_blk (j := 1) Br.out
  have Brf2 := frozen_blk (j := 2) Br.out
  have Brf3 := frozen_blk (j := 3) Br.out
  have Brf4 := frozen_blk (j := 4) Br.out
  have Brf5 := frozen_blk (j := 5) Br.out
  have Brf6 := frozen_blk (j := 6) Br.out
  have Brf7 := frozen_blk (j := 7) Br.out
  go_wp2_with fail
  clear Brc0 Brc1 Brc2 Brc3 Brc4 Brc5 Brc6 Brc7 Boc0 Boc1 Boc2 Boc3 Boc4 Boc5 Boc6 Boc7 Brl Bol
  clear Brf0 Brf1 Brf2 Brf3 Brf4 Brf5 Brf6 Brf7
  obtain ⟨W2, hW⟩ : ∃ W, W = (W1.setCell ⟨ba0, 0, none⟩ (.slice ai r.m.length di)) := ⟨_, rfl⟩
  rw [← hW]
  have K : W1.grownBy W2 (some ba0) := by rw [hW]; exact (grownBy_set (grownBy_of_below (Below.refl _ _)))
  have NBr := Lib.hid (show W2.heap[ba0]? = some (.cells #[.slice ai r.m.length di, .int .i64 r.q, .int .i64 r.bx, .int .i64 r.by_, .int .i64 r.lo, .int .i64 r.hi, .slice Ar2 r.ns.length cr2, .slice Ar3 r.ls.length cr3] 28 (0, 0)) by rw [hW]; exact (set8_0 Br.out))
  clear hW
  replace Xi := Xi.thru K Br.out (by decide)
  replace Bo := box_thru Bo K hne10
  replace T := grown_below (v := .slice (some ⟨ba0, 0, none⟩) 0 0) T K (fun k hk => by have hk : some ba0 = some k := hk; injection hk with hk; omega) (Nat.le_refl _)
  replace Br := NBr
  clear NBr K Sr
  have Sr := Rr.below (TV.trans (T.mono s0))
  refine (copyRegion_long (Sr.nr.below (by repeat (first | exact bR | refine bO ?_ | refine bA ?_ | refine bS ?_ | refine bD ?_ | refine bN ?_))) k2).mono ?_
  rintro e W3 ⟨an, dn, rfl, Xn, hb⟩
  have K : Below W2.heap.size W2 W3 := Below.trans (by repeat (first | exact bR | refine bO ?_ | refine bA ?_ | refine bS ?_ | refine bD ?_ | refine bN ?_)) (hb.mono (by first | exact Nat.le_refl _ | simp [ov_size]))
  clear hb
  replace Xn := Xn.weak (B' := V.heap.size) (by have := T.size; (try simp [ov_size]); omega)
  replace T := T.trans (K.mono T.size)
  replace Br := box_below Br K
  replace Bo := box_below Bo K
  replace Xi := Xi.below K
  clear K Sr
  have Sr := Rr.below (TV.trans (T.mono s0))
  obtain ⟨Brc0, Brc1, Brc2, Brc3, Brc4, Brc5, Brc6, Brc7, Brl⟩ := cb8 Br
  obtain ⟨Boc0, Boc1, Boc2, Boc3, Boc4, Boc5, Boc6, Boc7, Bol⟩ := cb8 Bo
  have Brf0 := frozen_blk (j := 0) Br.out
  have Brf1 := frozen_blk (j := 1) Br.out
  have Brf2 := frozen_blk (j := 2) Br.out
  have Brf3 := frozen_blk (j := 3) Br.out
  have Brf4 := frozen_blk (j := 4) Br.out
  have Brf5 := frozen_blk (j := 5) Br.out
  have Brf6 := frozen_blk (j := 6) Br.out
  have Brf7 := frozen_blk (j := 7) Br.out
  go_wp2_with fail
  clear Brc0 Brc1 Brc2 Brc3 Brc4 Brc5 Brc6 Brc7 Boc0 Boc1 Boc2 Boc3 Boc4 Boc5 Boc6 Boc7 Brl Bol
  clear Brf0 Brf1 Brf2 Brf3 Brf4 Brf5 Brf6 Brf7
  obtain ⟨W4, hW⟩ : ∃ W, W = (W3.setCell ⟨ba0, 6, none⟩ (.slice an r.ns.length dn)) := ⟨_, rfl⟩
  rw [← hW]
  have K : W3.grownBy W4 (some ba0) := by rw [hW]; exact (grownBy_set (grownBy_of_below (Below.refl _ _)))
  have NBr := Lib.hid (show W4.heap[ba0]? = some (.cells #[.slice ai r.m.length di, .int .i64 r.q, .int .i64 r.bx, .int .i64 r.by_, .int .i64 r.lo, .int .i64 r.hi, .slice an r.ns.length dn, .slice Ar3 r.ls.length cr3] 28 (0, 0)) by rw [hW]; exact (set8_6 Br.out))
  clear hW
  replace Xi := Xi.thru K Br.out (by decide)
  replace Xn := Xn.thru K Br.out (by decide)
  replace Bo := box_thru Bo K hne10
  replace T := grown_below (v := .slice (some ⟨ba0, 0, none⟩) 0 0) T K (fun k hk => by have hk : some ba0 = some k := hk; injection hk with hk; omega) (Nat.le_refl _)
  replace Br := NBr
  clear NBr K Sr
  have Sr := Rr.below (TV.trans (T.mono s0))
  refine (copyRegion_long (Sr.lr.below (by repeat (first | exact bR | refine bO ?_ | refine bA ?_ | refine bS ?_ | refine bD ?_ | refine bN ?_))) k3).mono ?_
  rintro e W5 ⟨al, dl, rfl, Xl, hb⟩
  have apXnXl := apart_new Xn Xl (by first | exact Nat.le_refl _ | (simp [ov_size]) | (simp [ov_size]; omega))
  have K : Below W4.heap.size W4 W5 := Below.trans (by repeat (first | exact bR | refine bO ?_ | refine bA ?_ | refine bS ?_ | refine bD ?_ | refine bN ?_)) (hb.mono (by first | exact Nat.le_refl _ | simp [ov_size]))
  clear hb
  replace Xl := Xl.weak (B' := V.heap.size) (by have := T.size; (try simp [ov_size]); omega)
  replace T := T.trans (K.mono T.size)
  replace Br := box_below Br K
  replace Bo := box_below Bo K
  replace Xi := Xi.below K
  replace Xn := Xn.below K
  clear K Sr
  have Sr := Rr.below (TV.trans (T.mono s0))
  have K1 : W5.grownBy (W5.setCell ⟨ba0, 7, none⟩ (.slice al r.ls.length dl)) (some ba0) := grownBy_set (grownBy_of_below (Below.refl _ _))
  have BoK := box_thru Bo K1 hne10
  obtain ⟨Brc0, Brc1, Brc2, Brc3, Brc4, Brc5, Brc6, Brc7, Brl⟩ := cb8 Br
  obtain ⟨Boc0, Boc1, Boc2, Boc3, Boc4, Boc5, Boc6, Boc7, Bol⟩ := cb8 Bo
  have Bof0 := frozen_blk (j := 0) Bo.out
  have Bof1 := frozen_blk (j := 1) Bo.out
  have Bof2 := frozen_blk (j := 2) Bo.out
  have Bof3 := frozen_blk (j := 3) Bo.out
  have Bof4 := frozen_blk (j := 4) Bo.out
  have Bof5 := frozen_blk (j := 5) Bo.out
  have Bof6 := frozen_blk (j := 6) Bo.out
  have Bof7 := frozen_blk (j := 7) Bo.out
  have Brf0 := frozen_blk (j := 0) Br.out
  have Brf1 := frozen_blk (j := 1) Br.out
  have Brf2 := frozen_blk (j := 2) Br.out
  have Brf3 := frozen_blk (j := 3) Br.out
  have Brf4 := frozen_blk (j := 4) Br.out
  have Brf5 := frozen_blk (j := 5) Br.out
  have Brf6 := frozen_blk (j := 6) Br.out
  have Brf7 := frozen_blk (j := 7) Br.out
  go_wp2
  refine bodyPost_ret (v := .agg #[.slice ai r.m.length di, .int .i64 r.q, .int .i64 r.bx, .int .i64 r.by_, .int .i64 r.lo, .int .i64 r.hi, .slice an r.ns.length dn, .slice al r.ls.length dl]) (by simp [results, Tryz.results45, go_sem, Boc0, Bof0, Boc1, Bof1, Boc2, Bof2, Boc3, Bof3, Boc4, Bof4, Boc5, Bof5, Boc6, Bof6, Boc7, Bof7, Bol]) rfl ⟨ai, di, an, dn, al, dl, rfl, RBO.weak (B := V.heap.size) ⟨(Xi.thru K1 Br.out (by decide)).thru k8 BoK.out (by decide), (Xn.thru K1 Br.out (by decide)).thru k8 BoK.out (by decide), (Xl.thru K1 Br.out (by decide)).thru k8 BoK.out (by decide), apXnXl⟩ s0, below8 ((TV.trans (T.mono s0)).setCell (Nat.le_trans s0 hbb0) _) (Nat.le_trans s0 hbb1)⟩
end Go.Proofs.YtabmfaamadbefaaGreat