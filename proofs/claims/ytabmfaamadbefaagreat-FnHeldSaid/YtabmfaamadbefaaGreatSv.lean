/- Several texts in one: Cf, Sv. Each says its own conditions. -/
import Derived.Test.YtabmfaamadbefaaGreatHsp
import Derived.Test.YtabmfaamadbefaaGreatZe
import Derived.Test.YtabmfaamadbefaaGreatMj
import Derived.RangeFuncFrom
import Derived.RangeFuncNested
import Derived.RangeFuncBound
import Derived.RangeFuncCalls
import Derived.RangeFuncLeaves
import Derived.Shelf.Abstract
import Derived.Shelf.RegionOpen
import Derived.OwnWalkIn
import Derived.TacticsInMore
import Derived.LoopNIn
import Derived.LoopIn
/- The reference's BoxRegion at bounds in their range, and the small box that it draws. Condition: the code has at most 2^20 bytes. -/
set_option linter.unusedVariables false
set_option linter.unusedSimpArgs false
set_option linter.unusedSectionVars false
namespace Go.Proofs.YtabmfaamadbefaaGreat
open Go.RowKit
def BoxPost (w : World) (out : List H3) (e : Ending) (w' : World) : Prop := ∃ A c, e = .returned (.tuple #[.agg #[.slice A out.length c], .bool true]) ∧ RB w.heap.size 44 w' A c out ∧ Below w.heap.size w w'
set_option maxRecDepth 100000 in
set_option maxHeartbeats 4000000 in
theorem spec_BoxRegion_any {x0 y0 x1 y1 : Int} {w : World} (B : BoxBd x0 y0 x1 y1) :
    Calls Tryz.prog 82 #[.int .i64 x0, .int .i64 y0, .int .i64 x1, .int .i64 y1] w (BoxPost w (boxB x0 y0 x1 y1)) := by
  have hx := B.lx
  have hy := B.ly
  have i1 : inR x0 (-1000) 1000 = true := inR_iff.2 (by omega)
  have i2 : inR x1 (x0 + 1) 1000 = true := inR_iff.2 (by omega)
  have i3 : inR y0 (-1000) 1000 = true := inR_iff.2 (by omega)
  have i4 : inR y1 (y0 + 1) 1000 = true := inR_iff.2 (by omega)
  have HM := Lib.hid (box_made B)
  have okB := boxB_ok B
  go_enter Tryz.func82, Tryz.ntmps82
  go_wp2_with (first | (go_at_call 112; refine (l01In_eq (by first | exact i1 | exact i2 | exact i3 | exact i4)).mono ?_; rintro e w' ⟨rfl, rfl⟩))
  obtain ⟨W0, hW⟩ : ∃ W0, (w.alloc (.cells #[.slice none 0 0] 26)).alloc (.cells #[.int .i64 1, .int .i64 0, .int .i64 x1, .int .i64 0, .int .i64 1, .int .i64 y1, .int .i64 (-1), .int .i64 0, .int .i64 (-x0), .int .i64 0, .int .i64 (-1), .int .i64 (-y0)] 44) = W0 := ⟨_, rfl⟩
  rw [hW]
  have T0 : Below w.heap.size w W0 := by rw [← hW]; exact (by repeat (first | exact bR | refine bO ?_ | refine bA ?_ | refine bS ?_ | refine bD ?_ | refine bN ?_))
  have X0 : Hid (W0.heap[w.heap.size]? = some (.cells #[.slice none 0 0] 26 (0, 0))) := Lib.hid (by rw [← hW]; exact (heap_old_at (by simp)).trans (heap_new_at (by simp) rfl))
  have L0 : RB (w.heap.size + 1) 44 W0 (some ⟨w.heap.size + 1, 0, none⟩) 4 (boxB x0 y0 x1 y1) := by rw [← hW]; exact ⟨rfl, .inr ⟨w.heap.size + 1, 4, _, rfl, by omega, heap_new_at (by simp) rfl, Nat.le_refl _, by unfold maxLen; omega, rfl, rfl⟩⟩
  clear hW
  refine (l05Make_eq (hs := boxB x0 y0 x1 y1) okB L0.r3 (by simp [boxB]) HM).mono ?_
  rintro e W1 ⟨A1, c1, rfl, L1, K⟩
  have T1 : Below w.heap.size w W1 := T0.trans (K.mono T0.size)
  have X1 := (K.block w.heap.size (Array.getElem?_eq_some_iff.1 X0.out).1).trans X0.out
  have L2 := L1.weak (B' := w.heap.size) T0.size
  clear L0 X0 T0 K L1
  obtain ⟨r, hr⟩ : ∃ r, w.heap.size = r := ⟨_, rfl⟩
  rw [hr] at X1 ⊢
  have x0' := cell_blk (j := 0) (v := .slice none 0 0) X1 rfl
  have f0 := frozen_blk (j := 0) X1
  have lr := (Array.getElem?_eq_some_iff.1 X1).1
  have HH : Hid (RB w.heap.size 44 (W1.setCell ⟨r, 0, none⟩ (.slice A1 (boxB x0 y0 x1 y1).length c1)) A1 c1 (boxB x0 y0 x1 y1) ∧ Below w.heap.size w (W1.setCell ⟨r, 0, none⟩ (.slice A1 (boxB x0 y0 x1 y1).length c1))) := Lib.hid ⟨L2.set_box X1 (by decide), T1.setCell (Nat.le_of_eq hr) _⟩
  clear L2 X1 T1
  go_wp2
  refine bodyPost_ret (v := .tuple #[.agg #[.slice A1 (boxB x0 y0 x1 y1).length c1], .bool true]) (by simp [results, Tryz.results82, go_sem, x0', f0, lr]) rfl ⟨A1, c1, rfl, HH.out⟩

end Go.Proofs.YtabmfaamadbefaaGreat
/- Contracts of valuesAt, support, SupportOf and FarthestCorner of the program. No condition but that lengths are ints. -/
set_option linter.unusedSimpArgs false
set_option linter.unusedVariables false
set_option linter.unusedSectionVars false
namespace Go.Proofs.YtabmfaamadbefaaGreat
open Go.RowKit Go.Shelf
@[go_sem] theorem semAt_in (l : Nat) (ρ : Operand → Value) (o : Oper) (h : ∀ c, o.op ≠ .defer c) : Oper.semAt (some l) ρ o = execOp ρ o := Oper.semAt_some l ρ o h
abbrev FV := { x : Int × Int // FrOk x }
/-- Every block of cells but these lies as it lay. -/
def KpX (bs : List Nat) (W W' : World) : Prop := W.heap.size ≤ W'.heap.size ∧ ∀ k arr T fr, k ∉ bs → W.heap[k]? = some (.cells arr T fr) → W'.heap[k]? = some (.cells arr T fr)
theorem kpX_t {bs : List Nat} {A B C : World} (h : KpX bs A B) (k : KpX bs B C) : KpX bs A C := ⟨Nat.le_trans h.1 k.1, fun i arr T fr hi e => k.2 i arr T fr hi (h.2 i arr T fr hi e)⟩
theorem kpX_refl {bs : List Nat} (W : World) : KpX bs W W := ⟨Nat.le_refl _, fun _ _ _ _ _ e => e⟩
theorem kpX_b {bs : List Nat} (W : World) (l : Nat) (o o' : Obj) (hl : W.heap[l]? = some o) (ho : o.isCells = false) : KpX bs W (W.putObj l o') := by
  refine ⟨by simp [World.putObj], fun k arr T fr hk e => ?_⟩
  by_cases h : k = l
  · subst h; rw [hl] at e; injection e with e; subst e; cases ho
  · exact (World.putObj_heap_other (by first | exact h | exact Ne.symm h)).trans e
theorem kpX_set {bs : List Nat} {W W' : World} (h : KpX bs W W') {b : Nat} (hb : b ∈ bs) (i : Nat) (v : Value) : KpX bs W (W'.setCell ⟨b, i, none⟩ v) :=
  ⟨by simpa using h.1, fun k arr T fr hk e => by
    rw [heap_setCell_other]
    · exact h.2 k arr T fr hk e
    · rintro rfl; exact hk hb⟩
theorem kpX_below {bs : List Nat} {W W' : World} (h : Below W.heap.size W W') : KpX bs W W' := ⟨h.size, fun k arr T fr _ e => (h.block k (Array.getElem?_eq_some_iff.1 e).1).trans e⟩
theorem RB.kp {B : Nat} {E : TypeId} {bs : List Nat} {w w' : World} {A : Option Addr} {c : Nat} {xs : List H3} (h : RB B E w A c xs) (hk : KpX bs w w') (hB : ∀ b ∈ bs, b < B) : RB B E w' A c xs := by
  refine ⟨h.1, ?_⟩
  rcases h.2 with e | ⟨g, cap, cu, e1, hgB, hh, hr⟩
  · exact .inl e
  · exact .inr ⟨g, cap, cu, e1, hgB, hk.2 g _ _ _ (fun hg => by have := hB g hg; omega) hh, hr⟩

set_option maxRecDepth 100000 in
set_option maxHeartbeats 8000000 in
/-- The iterator: the values at all corners, in their order. -/
theorem values_stops {hs : List H3} {a b : Int} {A : Option Addr} {c : Nat} {w : World} {B1 B2 B3 : Nat} {bs : List Nat} {vs : List FV} (n : Nat) (hn : 1 ≤ n) (kp : regionOk hs = true) (ha : -50000 ≤ a ∧ a ≤ 50000) (hb : -50000 ≤ b ∧ b ≤ 50000)
    (R : R3 44 w A c hs) (hvs : vs.map (·.1) = valsL a b hs)
    (X1 : w.heap[B1]? = some (.cells #[.slice A hs.length c] 26 (0, 0))) (X2 : w.heap[B2]? = some (.cells #[.int .i64 a] 3 (0, 0))) (X3 : w.heap[B3]? = some (.cells #[.int .i64 b] 3 (0, 0)))
    (hbs : ∀ k ∈ bs, k < w.heap.size) (h2 : B2 ∉ bs) (h3 : B3 ∉ bs) :
    SeqStopsK Fence.wide n Tryz.prog 130 #[.pointer (some ⟨B1, 0, none⟩), .pointer (some ⟨B2, 0, none⟩), .pointer (some ⟨B3, 0, none⟩)] (fun x : FV => #[Value.int .i64 x.1.1, Value.int .i64 x.1.2]) (KpX bs) (fun ys => ys = vs) (fun pre => pre <+: vs) vs.length w := fun l J Jx W hW hJ hJx hY h0 => by
  obtain ⟨G, h40⟩ := region_good kp
  have KS := Lib.hid (corners_spots kp)
  have hcl := cornersL_length hs
  have hvl : vs.length = hs.length := by have := congrArg List.length hvs; rw [List.length_map, valsL_length] at this; exact this
  have HVK := Lib.hid (show ∀ k (h : k < vs.length), vs[k].1 = valS a b ((cornersL hs).getD k ⟨0, 0, 0⟩) by
    intro k h
    have h' : k < (cornersL hs).length := by omega
    rw [List.getD_eq_getElem?_getD, List.getElem?_eq_getElem h', Option.getD_some]
    have e : (vs.map (·.1))[k]? = (valsL a b hs)[k]? := by rw [hvs]
    rw [List.getElem?_map, List.getElem?_eq_getElem h] at e
    unfold valsL at e
    rw [List.getElem?_map, List.getElem?_eq_getElem h'] at e
    simpa using e)
  have Y1 := Lib.hid ((hW.block B1 (Array.getElem?_eq_some_iff.1 X1).1).trans X1)
  have Y2 := Lib.hid ((hW.block B2 (Array.getElem?_eq_some_iff.1 X2).1).trans X2)
  have Y3 := Lib.hid ((hW.block B3 (Array.getElem?_eq_some_iff.1 X3).1).trans X3)
  have RW := R.below hW
  have hws := hW.size
  have HJ := Lib.hid hJ
  have HY := Lib.hid hY
  have H0 := Lib.hid h0
  have HCO := Lib.hid (fun W (R : R3 44 W A c hs) => corners_any G R (by omega))
  obtain ⟨cs, hcs⟩ : ∃ cs, cornersL hs = cs := ⟨_, rfl⟩
  simp only [hcs] at KS HVK hcl HCO
  have y1 := cell_blk (j := 0) (v := .slice A hs.length c) Y1.out rfl
  have ly := (Array.getElem?_eq_some_iff.1 Y1.out).1
  clear hJ hJx hY h0 hcs hvs X1 X2 X3 R kp G
  refine callsIn_of_wp Tryz.func130 rfl trivial ?_ rfl
  simp only [Tryz.ntmps130, List.size_toArray, List.length_cons, List.length_nil, Nat.reduceAdd, Nat.reduceSub, Array.replicate_succ, Array.replicate_zero, List.push_toArray, List.append_toArray, List.nil_append, List.cons_append]
  gi_wp2_with (refine ⟨trivial, ?_⟩; gi_at_call 71; refine (callsIn_wide.2 (HCO.out _ RW)).mono ?_; rintro e w1 ⟨A3, c3, rfl, RS, hb1⟩)
  have J1 := Lib.hid (HJ.out [] W w1 none H0.out (grownBy_of_below hb1) (fun r e => by cases e))
  have Z2 := box_below Y2 hb1
  have Z3 := box_below Y3 hb1
  have hb1s := hb1.size
  have HBS := Lib.hid (fun k hk => Nat.lt_of_lt_of_le (hbs k hk) hws)
  clear H0 Y1 Y2 Y3 y1 ly RW HCO hW
  gi_wp2
  gi_loopw [10] (fun i wr => ∃ k : Nat, k ≤ hs.length ∧ i = .int .i64 k ∧ Hid (J (vs.take k) wr) ∧ W.heap.size ≤ wr.heap.size ∧ Hid (wr.heap[B2]? = some (.cells #[.int .i64 a] 3 (0, 0))) ∧ Hid (wr.heap[B3]? = some (.cells #[.int .i64 b] 3 (0, 0))) ∧ RB W.heap.size 52 wr A3 c3 cs) (fun i _ => hs.length - (intOf i).toNat)
  case atStart => exact ⟨0, Nat.zero_le _, rfl, J1, hb1s, Z2, Z3, RS⟩
  case round =>
    obtain ⟨k, hk, rfl, JK, hsz, Q2, Q3, RK⟩ := hrel
    have q2 := cell_blk (j := 0) (v := .int .i64 a) Q2.out rfl
    have q3 := cell_blk (j := 0) (v := .int .i64 b) Q3.out rfl
    have l2 := (Array.getElem?_eq_some_iff.1 Q2.out).1
    have l3 := (Array.getElem?_eq_some_iff.1 Q3.out).1
    by_cases hlt : k < hs.length
    · have hlc : k < cs.length := by omega
      have hlv : k < vs.length := by omega
      obtain ⟨g0, rfl, hg0, z0, z1, z2⟩ := RK.r3.at_ hlc
      have ks := KS.out _ (List.getElem_mem hlc)
      obtain ⟨m1, m2⟩ := valS_bd ha hb ks
      obtain ⟨W1, hW1⟩ : ∃ W1, wr.alloc (.cells #[.int .i64 cs[k].a, .int .i64 cs[k].b, .int .i64 cs[k].c] 52) = W1 := ⟨_, rfl⟩
      have K1 : Below wr.heap.size wr W1 := by rw [← hW1]; exact (by repeat (first | exact bR | refine bO ?_ | refine bA ?_ | refine bS ?_ | refine bD ?_ | refine bN ?_))
      have JW : J (vs.take k) W1 := HJ.out _ wr W1 none JK.out (grownBy_of_below K1) (fun r e => by cases e)
      obtain ⟨fn, tmps, assign, body, hy, hR⟩ := HY.out (vs.take k) vs[k] W1 JW (by rw [List.length_take]; omega)
      have hv := HVK.out k hlv
      rw [List.getD_eq_getElem?_getD, List.getElem?_eq_getElem hlc, Option.getD_some] at hv
      rw [hv] at hy
      simp only [valS] at hy
      have HT := Lib.hid (show vs.take (k + 1) = vs.take k ++ [vs[k]] from List.take_succ_eq_append_getElem hlv)
      have P2 := box_below Q2 K1
      have P3 := box_below Q3 K1
      have PR := RK.below K1
      have K1s := K1.size
      have XN : W1.heap[wr.heap.size]? = some (.cells #[.int .i64 cs[k].a, .int .i64 cs[k].b, .int .i64 cs[k].c] 52 (0, 0)) := by rw [← hW1]; exact heap_alloc_new _ _
      have p2 := cell_blk (j := 0) (v := .int .i64 a) P2.out rfl
      have p3 := cell_blk (j := 0) (v := .int .i64 b) P3.out rfl
      have lp2 := (Array.getElem?_eq_some_iff.1 P2.out).1
      have lp3 := (Array.getElem?_eq_some_iff.1 P3.out).1
      have n0 := cell_blk (j := 0) (v := .int .i64 cs[k].a) XN rfl
      have n1 := cell_blk (j := 1) (v := .int .i64 cs[k].b) XN rfl
      have n2 := cell_blk (j := 2) (v := .int .i64 cs[k].c) XN rfl
      have ln := (Array.getElem?_eq_some_iff.1 XN).1
      clear hv JW JK Q2 Q3 RK XN
      gi_wp2
      refine hR.mono ?_
      rintro e W3 (⟨rfl, hJ3, hk3⟩ | ⟨rfl, hJx3⟩)
      · have N2 := Lib.hid (hk3.2 B2 _ _ _ h2 P2.out)
        have N3 := Lib.hid (hk3.2 B3 _ _ _ h3 P3.out)
        have NR := PR.kp hk3 HBS.out
        have NS : W.heap.size ≤ W3.heap.size := by have := hk3.1; omega
        have NJ : Hid (J (vs.take (k + 1)) W3) := Lib.hid (by rw [HT.out]; exact hJ3)
        clear hk3 hJ3 hy hR hW1
        gi_wp2
        go_roundw
        case rel => exact ⟨k + 1, by omega, by go_num, NJ, NS, N2, N3, NR⟩
        case measure => simp [intOf] <;> omega
      · gi_wp2
        refine bodyPost_ret (results_none rfl _ _ _) rfl ?_
        exact ⟨⟨_, rfl⟩, .inr ⟨vs.take k ++ [vs[k]], by rw [← HT.out]; exact List.take_prefix _ _, hJx3⟩⟩
    · obtain rfl : k = hs.length := by omega
      have JE : J vs wr := by have := JK.out; rwa [← hvl, List.take_length] at this
      gi_wp2
      go_end0
      exact ⟨⟨_, rfl⟩, .inl ⟨_, rfl, JE⟩⟩

theorem valuesAt_any {n c : Nat} {A : Option Addr} {a b : Int} {w : World} :
    Calls Tryz.prog 97 #[.agg #[.slice A n c], .int .i64 a, .int .i64 b] w fun e w' => e = .returned (.func (.func 130) #[] #[.pointer (some ⟨w.heap.size, 0, none⟩), .pointer (some ⟨w.heap.size + 1, 0, none⟩), .pointer (some ⟨w.heap.size + 1 + 1, 0, none⟩)]) ∧
      w' = ((w.alloc (.cells #[.slice A n c] 26)).alloc (.cells #[.int .i64 a] 3)).alloc (.cells #[.int .i64 b] 3) := by
  go_enter Tryz.func97, Tryz.ntmps97
  go_wp2
  go_ret
  exact ⟨rfl, rfl⟩
theorem blk_kept {W W' : World} {row : Option Nat} {b : Nat} {arr : Array Value} {T : TypeId} {fr : Nat × Nat} (h : W.heap[b]? = some (.cells arr T fr)) (hg : W.grownBy W' row) (hr : ∀ r, row = some r → ∃ o : Obj, W.heap[r]? = some o ∧ o.isCells = false) : W'.heap[b]? = some (.cells arr T fr) := by
  refine (hg.block b (Array.getElem?_eq_some_iff.1 h).1 fun e => ?_).trans h
  obtain ⟨o, ho, hc⟩ := hr b e.symm
  rw [h] at ho; injection ho with ho; subst ho; cases hc
theorem fv_list {l : List (Int × Int)} (h : ∀ x ∈ l, FrOk x) : ∃ vs : List FV, vs.map (·.1) = l := ⟨l.attach.map fun x => ⟨x.1, h x.1 x.2⟩, by rw [List.map_map]; exact List.attach_map_subtype_val l⟩

set_option maxRecDepth 100000 in
set_option maxHeartbeats 8000000 in
theorem support_eq {hs : List H3} {a b p q : Int} {A : Option Addr} {c : Nat} {w : World} (kp : regionOk hs = true) (ha : -50000 ≤ a ∧ a ≤ 50000) (hb : -50000 ≤ b ∧ b ≤ 50000) (hne : hs ≠ []) (R : R3 44 w A c hs) (hv : Hid (supN a b hs = (p, q))) :
    Calls Tryz.prog 63 #[.agg #[.slice A hs.length c], .int .i64 a, .int .i64 b] w fun e w' => e = .returned (.agg #[.int .i64 p, .int .i64 q]) ∧ Below w.heap.size w w' := by
  obtain ⟨fN, _, _⟩ := sup_parts ha hb kp hne
  have okV := valsL_ok ha hb kp
  obtain ⟨vs, hvs⟩ := fv_list okV
  have HV : Hid (ratOf (farN (valsL a b hs)).1 (farN (valsL a b hs)).2 = (p, q)) := hv
  rw [← hvs] at HV fN
  clear hv hne okV
  refine (callsIn_wide (n := 3)).1 ?_
  refine callsIn_of_wp_marks Tryz.func63 rfl trivial ?_ rfl
  simp only [Tryz.ntmps63, List.size_toArray, List.length_cons, List.length_nil, Nat.reduceAdd, Nat.reduceSub, Array.replicate_succ, Array.replicate_zero, List.push_toArray, List.append_toArray, List.nil_append, List.cons_append]
  gi_wp2_with (refine ⟨trivial, ?_⟩; gi_at_call 97; refine (callsIn_wide.2 valuesAt_any).mono ?_; rintro e w' ⟨rfl, rfl⟩)
  generalize hW0 : (((((((w.alloc (.cells #[.slice A hs.length c] 26)).alloc (.cells #[.int .i64 0, .int .i64 0] 54)).alloc (.cells #[.int .i64 0] 3)).alloc (.cells #[.int .i64 0] 3)).alloc (.cells #[.slice A hs.length c] 26)).alloc (.cells #[.int .i64 a] 3)).alloc (.cells #[.int .i64 b] 3)) = W0
  have T0 : Below w.heap.size w W0 := by rw [← hW0]; exact (by repeat (first | exact bR | refine bO ?_ | refine bA ?_ | refine bS ?_ | refine bD ?_ | refine bN ?_))
  have s0 : W0.heap.size = w.heap.size + 1 + 1 + 1 + 1 + 1 + 1 + 1 := by rw [← hW0]; simp
  have Y0 : W0.heap[w.heap.size + 1]? = some (.cells #[.int .i64 0, .int .i64 0] 54 (0, 0)) := by rw [← hW0]; exact (heap_old_at (by simp)).trans ((heap_old_at (by simp)).trans ((heap_old_at (by simp)).trans ((heap_old_at (by simp)).trans ((heap_old_at (by simp)).trans (heap_new_at (by simp) rfl)))))
  have YN : W0.heap[w.heap.size + 1 + 1]? = some (.cells #[.int .i64 0] 3 (0, 0)) := by rw [← hW0]; exact (heap_old_at (by simp)).trans ((heap_old_at (by simp)).trans ((heap_old_at (by simp)).trans ((heap_old_at (by simp)).trans (heap_new_at (by simp) rfl))))
  have YD : W0.heap[w.heap.size + 1 + 1 + 1]? = some (.cells #[.int .i64 0] 3 (0, 0)) := by rw [← hW0]; exact (heap_old_at (by simp)).trans ((heap_old_at (by simp)).trans ((heap_old_at (by simp)).trans (heap_new_at (by simp) rfl)))
  have Y1 : W0.heap[w.heap.size + 1 + 1 + 1 + 1]? = some (.cells #[.slice A hs.length c] 26 (0, 0)) := by rw [← hW0]; exact (heap_old_at (by simp)).trans ((heap_old_at (by simp)).trans (heap_new_at (by simp) rfl))
  have Y2 : W0.heap[w.heap.size + 1 + 1 + 1 + 1 + 1]? = some (.cells #[.int .i64 a] 3 (0, 0)) := by rw [← hW0]; exact (heap_old_at (by simp)).trans (heap_new_at (by simp) rfl)
  have Y3 : W0.heap[w.heap.size + 1 + 1 + 1 + 1 + 1 + 1]? = some (.cells #[.int .i64 b] 3 (0, 0)) := by rw [← hW0]; exact heap_new_at (by simp) rfl
  have RW := R.below T0
  obtain ⟨n0, en⟩ : ∃ n, w.heap.size = n := ⟨_, rfl⟩
  have HB : ∃ br bn bd B1 B2 B3 : Nat, n0 ≤ br ∧ n0 ≤ bn ∧ n0 ≤ bd ∧ br ≠ bn ∧ br ≠ bd ∧ bn ≠ bd ∧ B2 ≠ bn ∧ B2 ≠ bd ∧ B3 ≠ bn ∧ B3 ≠ bd ∧ bn < W0.heap.size ∧ bd < W0.heap.size ∧ n0 + 1 = br ∧ n0 + 1 + 1 = bn ∧ n0 + 1 + 1 + 1 = bd ∧ n0 + 1 + 1 + 1 + 1 = B1 ∧ n0 + 1 + 1 + 1 + 1 + 1 = B2 ∧ n0 + 1 + 1 + 1 + 1 + 1 + 1 = B3 :=
    ⟨_, _, _, _, _, _, by omega, by omega, by omega, by omega, by omega, by omega, by omega, by omega, by omega, by omega, by omega, by omega, rfl, rfl, rfl, rfl, rfl, rfl⟩
  obtain ⟨br, bn, bd, B1, B2, B3, g1, g2, g3, g4, g5, g6, g7, g8, g9, g10, g11, g12, e1, e2, e3, e4, e5, e6⟩ := HB
  rw [en] at Y0 YN YD Y1 Y2 Y3 ⊢
  rw [e1] at Y0 YN YD Y1 Y2 Y3 e2 e3 e4 e5 e6 ⊢
  rw [e2] at YN YD Y1 Y2 Y3 e3 e4 e5 e6 ⊢
  rw [e3] at YD Y1 Y2 Y3 e4 e5 e6 ⊢
  rw [e4] at Y1 Y2 Y3 e5 e6 ⊢
  rw [e5] at Y2 Y3 e6 ⊢
  rw [e6] at Y3 ⊢
  have t0 : n0 ≤ W0.heap.size := by have := T0.size; omega
  have bl0 : n0 ≤ w.heap.size := by omega
  have HEN := Lib.hid en
  rw [en] at T0
  clear e1 e2 e3 e4 e5 e6 s0 hW0 R en
  refine wpIn_rangeFunc_ownF rfl (by omega) (gf := 130) (lb := #[.pointer (some ⟨B1, 0, none⟩), .pointer (some ⟨B2, 0, none⟩), .pointer (some ⟨B3, 0, none⟩)]) rfl trivial (enters_of Tryz.func130 (by kernel_rfl) rfl)
    (values_stops (bs := [bn, bd]) (vs := vs) _ (by omega) kp ha hb RW hvs Y1 Y2 Y3 (fun k hk => by simp at hk; omega) (by simp; omega) (by simp; omega)) (fun h k => kpX_t h k) (fun W l o o' _ hl ho _ => kpX_b W l o o' hl ho) (Below.refl _ _) (fun _ => rfl)
    (fun pre W => (W.heap[bn]? = some (.cells #[.int .i64 (farN (pre.map (·.1))).1] 3 (0, 0)) ∧ W.heap[bd]? = some (.cells #[.int .i64 (farN (pre.map (·.1))).2] 3 (0, 0)) ∧ W.heap[br]? = some (.cells #[.int .i64 0, .int .i64 0] 54 (0, 0))) ∧ Below n0 w W)
    (fun _ _ _ => False)
    (OwnFrom.and (Own.from (fun s A B row hs hg hr => ⟨blk_kept hs.1 hg hr, blk_kept hs.2.1 hg hr, blk_kept hs.2.2 hg hr⟩) _) (ownFrom_below bl0 t0))
    (fun _ _ _ _ _ hs _ _ => hs)
    ⟨⟨YN, YD, Y0⟩, T0⟩
    (fun x => { tmps := #[.agg #[.slice A hs.length c], .int .i64 a, .int .i64 b, .pointer (some ⟨n0, 0, none⟩), undef, undef, .pointer (some ⟨br, 0, none⟩), .pointer (some ⟨bn, 0, none⟩), .pointer (some ⟨bd, 0, none⟩), .int .i64 x.1.1, .int .i64 x.1.2, .agg #[.slice A hs.length c], .int .i64 a, .int .i64 b,
      .func (.func 130) #[] #[.pointer (some ⟨B1, 0, none⟩), .pointer (some ⟨B2, 0, none⟩), .pointer (some ⟨B3, 0, none⟩)], .int .i64 x.1.1, .int .i64 x.1.2, undef, undef, undef, undef, undef, undef, undef, undef, undef, undef, undef, undef, undef, undef, undef], defers := [] }) ?assign ?body ?done ?stop
  case assign =>
    intro l x W K hK
    gi_wp2
    exact hK
  case body =>
    rintro l pre x W ⟨⟨hn, hd, hr⟩, hB⟩ _
    have okp : ∀ y ∈ pre.map (·.1), FrOk y := fun y hy => by obtain ⟨z, _, rfl⟩ := List.mem_map.1 hy; exact z.2
    obtain ⟨⟨x1, x2⟩, hx⟩ := x
    have F1 := Lib.hid (farN_snoc (x := (x1, x2)) okp).1
    have hbd : farN (pre.map (·.1)) = (0, 0) ∨ FrOk (farN (pre.map (·.1))) := (farN_ok okp).elim (fun h => .inl h.2.1) (fun h => .inr h.1)
    have HM := Lib.hid (show (pre ++ [(⟨(x1, x2), hx⟩ : FV)]).map (·.1) = pre.map (·.1) ++ [(x1, x2)] by simp)
    have F2 : Hid (farGo (pre.map (·.1)) (x1, x2) = (decide ((farN (pre.map (·.1))).2 = 0) || decide (0 < cmpF x1 x2 (farN (pre.map (·.1))).1 (farN (pre.map (·.1))).2))) := Lib.hid rfl
    obtain ⟨go, hgo⟩ : ∃ go, farGo (pre.map (·.1)) (x1, x2) = go := ⟨_, rfl⟩
    rw [hgo] at F1 F2
    obtain ⟨⟨m, d⟩, hmd⟩ : ∃ s, farN (pre.map (·.1)) = s := ⟨_, rfl⟩
    rw [hmd] at hn hd F1 F2 hbd
    simp only at hn hd F2
    have cn := cell_blk (j := 0) (v := .int .i64 m) hn rfl
    have cd := cell_blk (j := 0) (v := .int .i64 d) hd rfl
    have fn := frozen_blk (j := 0) hn
    have fd := frozen_blk (j := 0) hd
    have ln := (Array.getElem?_eq_some_iff.1 hn).1
    have ld := (Array.getElem?_eq_some_iff.1 hd).1
    obtain ⟨⟨hx1, hx2⟩, hx3, hx4⟩ := hx
    simp only at hx1 hx2 hx3 hx4
    by_cases hg : go = true
    · subst hg
      have F3 := Lib.hid (show farN ((pre ++ [(⟨(x1, x2), ⟨hx1, hx2⟩, hx3, hx4⟩ : FV)]).map (·.1)) = (x1, x2) by rw [HM.out, F1.out, if_pos rfl])
      have NEW : Hid (KeepsOthers W ((W.setCell ⟨bn, 0, none⟩ (.int .i64 x1)).setCell ⟨bd, 0, none⟩ (.int .i64 x2)) ∧ KpX [bn, bd] W ((W.setCell ⟨bn, 0, none⟩ (.int .i64 x1)).setCell ⟨bd, 0, none⟩ (.int .i64 x2)) ∧
          (((W.setCell ⟨bn, 0, none⟩ (.int .i64 x1)).setCell ⟨bd, 0, none⟩ (.int .i64 x2)).heap[bn]? = some (.cells #[.int .i64 x1] 3 (0, 0)) ∧ ((W.setCell ⟨bn, 0, none⟩ (.int .i64 x1)).setCell ⟨bd, 0, none⟩ (.int .i64 x2)).heap[bd]? = some (.cells #[.int .i64 x2] 3 (0, 0)) ∧ ((W.setCell ⟨bn, 0, none⟩ (.int .i64 x1)).setCell ⟨bd, 0, none⟩ (.int .i64 x2)).heap[br]? = some (.cells #[.int .i64 0, .int .i64 0] 54 (0, 0))) ∧
          Below n0 w ((W.setCell ⟨bn, 0, none⟩ (.int .i64 x1)).setCell ⟨bd, 0, none⟩ (.int .i64 x2))) := by
        refine Lib.hid ⟨(KeepsOthers.setCell _ _ _).trans (KeepsOthers.setCell _ _ _), kpX_set (kpX_set (kpX_refl W) (b := bn) (by simp) 0 _) (b := bd) (by simp) 0 _, ⟨?_, ?_, ?_⟩, (hB.setCell (p := ⟨bn, 0, none⟩) g2 _).setCell (p := ⟨bd, 0, none⟩) g3 _⟩
        · exact (heap_setCell_other _ _ _ _ (show bn ≠ bd from g6)).trans (heap_setCell_same _ _ _ _ _ _ hn)
        · exact heap_setCell_same _ _ _ _ _ _ ((heap_setCell_other _ ⟨bn, 0, none⟩ _ _ (show bd ≠ bn from Ne.symm g6)).trans hd)
        · exact (heap_setCell_other _ ⟨bd, 0, none⟩ _ _ (show br ≠ bd from g5)).trans ((heap_setCell_other _ ⟨bn, 0, none⟩ _ _ (show br ≠ bn from g4)).trans hr)
      by_cases d0 : d = 0
      · subst d0
        clear hbd F1 F2 hn hd hr hB HM hmd hgo okp
        gi_wp2
        refine ⟨trivial, ?_⟩
        gi_wp2
        exact ⟨NEW.out.1, NEW.out.2.1, by rw [F3.out]; exact NEW.out.2.2.1, NEW.out.2.2.2⟩
      · have hc : 0 < cmpF x1 x2 m d := by have := F2.out; rw [decide_eq_false d0, Bool.false_or] at this; exact of_decide_eq_true this.symm
        have hf : FrOk (m, d) := hbd.resolve_left (fun h => d0 (by injection h))
        obtain ⟨⟨hf1, hf2⟩, hf3, hf4⟩ := hf
        simp only at hf1 hf2 hf3 hf4
        have hdz : (d == 0) = false := by simp; omega
        clear hbd F1 F2 hn hd hr hB HM hmd hgo okp d0
        gi_wp2_with (refine ⟨trivial, ?_⟩; gi_at_call 73; refine (CallsIn.inRound l (callsIn_wide.2 (compareFractions_any x1 x2 m d _ (by omega) (by omega) (by omega) (by omega)))).mono ?_; rintro e w' ⟨rfl, rfl⟩)
        exact ⟨NEW.out.1, NEW.out.2.1, by rw [F3.out]; exact NEW.out.2.2.1, NEW.out.2.2.2⟩
    · obtain rfl : go = false := by simpa using hg
      have F3 := Lib.hid (show farN ((pre ++ [(⟨(x1, x2), ⟨hx1, hx2⟩, hx3, hx4⟩ : FV)]).map (·.1)) = (m, d) by rw [HM.out, F1.out, if_neg (by simp)])
      have h2 := F2.out.symm
      rw [Bool.or_eq_false_iff] at h2
      have d0 : ¬ d = 0 := of_decide_eq_false h2.1
      have hc : ¬ 0 < cmpF x1 x2 m d := of_decide_eq_false h2.2
      have hf : FrOk (m, d) := hbd.resolve_left (fun h => d0 (by injection h))
      obtain ⟨⟨hf1, hf2⟩, hf3, hf4⟩ := hf
      simp only at hf1 hf2 hf3 hf4
      have hdz : (d == 0) = false := by simp; omega
      have NEW := Lib.hid (show (W.heap[bn]? = some (.cells #[.int .i64 m] 3 (0, 0)) ∧ W.heap[bd]? = some (.cells #[.int .i64 d] 3 (0, 0)) ∧ W.heap[br]? = some (.cells #[.int .i64 0, .int .i64 0] 54 (0, 0))) ∧ Below n0 w W from ⟨⟨hn, hd, hr⟩, hB⟩)
      clear hbd F1 F2 hn hd hr hB HM hmd hgo okp d0 h2 hg
      gi_wp2_with (refine ⟨trivial, ?_⟩; gi_at_call 73; refine (CallsIn.inRound l (callsIn_wide.2 (compareFractions_any x1 x2 m d _ (by omega) (by omega) (by omega) (by omega)))).mono ?_; rintro e w' ⟨rfl, rfl⟩)
      exact ⟨KeepsOthers.refl _, kpX_refl _, by rw [F3.out]; exact NEW.out.1, NEW.out.2⟩
  case done =>
    rintro D ys W hD hys ⟨⟨hn, hd, hr⟩, hB⟩ hK
    have hys' : ys = vs := hys
    rw [hys'] at hn hd
    clear hys hys'
    obtain ⟨⟨m, d⟩, hmd⟩ : ∃ s, farN (vs.map (·.1)) = s := ⟨_, rfl⟩
    rw [hmd] at hn hd HV fN
    obtain ⟨⟨hf1, hf2⟩, hf3, hf4⟩ := fN
    simp only at hn hd HV hf1 hf2 hf3 hf4
    have cn := cell_blk (j := 0) (v := .int .i64 m) hn rfl
    have cd := cell_blk (j := 0) (v := .int .i64 d) hd rfl
    have cr := cell_blk (j := 0) (v := .int .i64 0) hr rfl
    have cr1 := cell_blk (j := 1) (v := .int .i64 0) hr rfl
    have fr := frozen_blk (j := 0) hr
    have fr1 := frozen_blk (j := 1) hr
    have ln := (Array.getElem?_eq_some_iff.1 hn).1
    have ld := (Array.getElem?_eq_some_iff.1 hd).1
    have lr := (Array.getElem?_eq_some_iff.1 hr).1
    gi_wp2_with (refine ⟨trivial, ?_⟩; gi_at_call 36; refine (callsIn_wide.2 (calls_ov (impl_RatioOf_eq HV (by omega) (by omega)))).mono ?_; rintro e w' ⟨rfl, x, rfl⟩)
    have lD := (Array.getElem?_eq_some_iff.1 hK).1
    have HB2 : Below w.heap.size w (ov ((W.setCell ⟨br, 0, none⟩ (.int .i64 p)).setCell ⟨br, 1, none⟩ (.int .i64 q)) x) := by
      rw [HEN.out]
      exact below_ov _ _ ((hB.setCell (p := ⟨br, 0, none⟩) g1 _).setCell (p := ⟨br, 1, none⟩) g1 _) (by simp; omega)
    have K2 : (ov ((W.setCell ⟨br, 0, none⟩ (.int .i64 p)).setCell ⟨br, 1, none⟩ (.int .i64 q)) x).heap[D]? = some (.deferred (some [])) := (ov_block _ _ (by simpa using lD)).trans (((KeepsOthers.setCell _ _ _).trans (KeepsOthers.setCell _ _ _)).same D _ hK rfl)
    have R2 : (ov ((W.setCell ⟨br, 0, none⟩ (.int .i64 p)).setCell ⟨br, 1, none⟩ (.int .i64 q)) x).heap[br]? = some (.cells #[.int .i64 p, .int .i64 q] 54 (0, 0)) :=
      (ov_block _ _ (by simpa using lr)).trans (heap_setCell_same _ _ _ _ _ _ (heap_setCell_same _ _ _ _ _ _ hr))
    generalize ov ((W.setCell ⟨br, 0, none⟩ (.int .i64 p)).setCell ⟨br, 1, none⟩ (.int .i64 q)) x = W2 at HB2 K2 R2 ⊢
    have R3' := blk_kept R2 (grownBy_putObj' _ D (.deferred none)) (fun r e => by cases e; exact ⟨_, K2, rfl⟩)
    have lb := (Array.getElem?_eq_some_iff.1 R3').1
    have k0 := cell_blk (j := 0) (v := .int .i64 p) R3' rfl
    have k1 := cell_blk (j := 1) (v := .int .i64 q) R3' rfl
    refine ⟨by simp, .inl ⟨_, _, rfl, run_takeDeferred K2, ?_⟩⟩
    exact ⟨.agg #[.int .i64 p, .int .i64 q], by simp [results, Tryz.results63, go_sem, k0, k1, lb], rfl, HB2.trans (belowK_b (w := w) (Nat.le_refl _) W2 D _ _ (by have := HEN.out; omega) K2 rfl rfl)⟩
  case stop =>
    rintro D c pre W _ _ h _
    exact h.elim

end Go.Proofs.YtabmfaamadbefaaGreat