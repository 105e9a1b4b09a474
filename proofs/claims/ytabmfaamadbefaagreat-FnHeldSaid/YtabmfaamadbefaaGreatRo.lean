/- Several texts in one: Ma, Ro. Each says its own conditions. -/
import Derived.Test.YtabmfaamadbefaaGreatTi
import Derived.Test.YtabmfaamadbefaaGreatEd
import Derived.Test.YtabmfaamadbefaaGreatH
import Derived.Laws.StructEq
/- Contracts of FrameHalves and of meetAll: the canonical region of half planes. Condition: the half planes are valid, and few. -/
set_option linter.unusedSimpArgs false
set_option linter.unusedVariables false
set_option linter.unusedSectionVars false
namespace Go.Proofs.YtabmfaamadbefaaGreat
open Go.RowKit
theorem alloc_blk {w : World} {o x : Obj} {b : Nat} (h : w.heap[b]? = some x) : (w.alloc o).heap[b]? = some x :=
  ((Below.refl w.heap.size w).alloc (Nat.le_refl _) o).block b (Array.getElem?_eq_some_iff.1 h).1 |>.trans h

theorem own_slice1 {B : Nat} {E : TypeId} {w : World} {v : Value} {o : List H3} {x : H3} (h : w.ownsRow B E 3 v (o.length + 1) (cells3 o ++ cells3 [x])) : ∃ A c, v = .slice A (o.length + 1) c ∧ RB B E w A c (o ++ [x]) := by
  have h' : w.ownsRow B E 3 v (o ++ [x]).length (cells3 (o ++ [x])) := by rw [cells3_append, List.length_append]; exact h
  obtain ⟨A, c, rfl, R⟩ := own_slice h'
  exact ⟨A, c, by rw [List.length_append]; rfl, R⟩
theorem RB.ne_box {B b n : Nat} {E T : TypeId} {w : World} {A : Option Addr} {c : Nat} {xs : List H3} {arr : Array Value} {fr : Nat × Nat} (h : RB B E w A c xs) (hb : w.heap[b]? = some (.cells arr T fr)) (hT : T ≠ E) : some b ≠ (Value.slice A n c).ownBlock := by
  intro e
  rcases h.2 with ⟨e1, _⟩ | ⟨g, cap, cur, e1, hg, hh, _⟩
  · injection e1 with e1; subst e1; cases e
  · injection e1 with e1; subst e1
    injection e with e
    subst e
    rw [hh] at hb
    injection hb with hb; injection hb with _ hb; exact hT hb.symm
theorem RB.set_box {B b i : Nat} {E T : TypeId} {w : World} {A : Option Addr} {c : Nat} {xs : List H3} {arr : Array Value} {fr : Nat × Nat} {v : Value} (h : RB B E w A c xs) (hb : w.heap[b]? = some (.cells arr T fr)) (hT : T ≠ E) : RB B E (w.setCell ⟨b, i, none⟩ v) A c xs := by
  refine ⟨h.1, ?_⟩
  rcases h.2 with e | ⟨g, cap, cur, e1, hg, hh, hr⟩
  · exact .inl e
  · refine .inr ⟨g, cap, cur, e1, hg, ?_, hr⟩
    rw [heap_setCell_other]
    · exact hh
    · rintro rfl
      rw [hh] at hb
      injection hb with hb; injection hb with _ hb; exact hT hb.symm

/-- The canonical region, and whether it has few edges enough. -/
def meetR (hs : List H3) : List H3 × Bool := if 40 < (makeI (sorted4 hs)).length then ([], false) else (makeI (sorted4 hs), true)
def RegPost (w : World) (out : List H3) (ok : Bool) (e : Ending) (w' : World) : Prop := ∃ A c, e = .returned (.tuple #[.agg #[.slice A out.length c], .bool ok]) ∧ RB w.heap.size 44 w' A c out ∧ Below w.heap.size w w'

theorem FrameHalves_any {w : World} : Calls Tryz.prog 94 #[] w (InsPost w.heap.size w frameH) := by
  go_enter Tryz.func94, Tryz.ntmps94
  go_wp2
  go_ret
  refine ⟨some ⟨w.heap.size, 0, none⟩, 4, rfl, ⟨rfl, .inr ⟨w.heap.size, 4, _, rfl, Nat.le_refl _, heap_alloc_new _ _, Nat.le_refl _, by unfold maxLen; omega, rfl, rfl⟩⟩, (Below.refl _ _).alloc (Nat.le_refl _) _⟩

theorem pickI_skip {L out : List H3} {k : Nat} (hk : k < L.length) (h : pickI L k = some out) (e1 : (edgeI L k L[k]).2 = false) (e2 : (edgeI L k L[k]).1 = false) : pickI L (k + 1) = some out := by
  simp [pickI, h, hk, e1, e2]
theorem pickI_take {L out : List H3} {k : Nat} (hk : k < L.length) (h : pickI L k = some out) (e1 : (edgeI L k L[k]).2 = false) (e2 : (edgeI L k L[k]).1 = true) : pickI L (k + 1) = some (out ++ [L[k]]) := by
  simp [pickI, h, hk, e1, e2]
theorem pickI_len {L : List H3} : ∀ {k : Nat} {out : List H3}, pickI L k = some out → out.length ≤ k
  | 0, out, h => by simp [pickI] at h; subst h; simp
  | k + 1, out, h => by
    simp only [pickI] at h
    cases hp : pickI L k with
    | none => rw [hp] at h; cases h
    | some o =>
      have := pickI_len hp
      rw [hp] at h
      simp only at h
      split at h
      · split at h
        · cases h
        · split at h
          · injection h with h; subst h; simp; omega
          · injection h with h; subst h; omega
      · injection h with h; subst h; omega
theorem makeI_none {L : List H3} (h : pickI L L.length = none) : makeI L = [] := by unfold makeI; rw [h]; rfl
theorem makeI_some {L out : List H3} (h : pickI L L.length = some out) : makeI L = out := by unfold makeI; rw [h]; rfl

theorem isEdge_eq {L : List H3} {k : Nat} {A : Option Addr} {c : Nat} {w : World} {e v : Bool} (G : ∀ g ∈ L, HOk g) (hk : k < L.length) (R : R3 44 w A c L) (hl : L.length ≤ 1000) (h : edgeI L k L[k] = (e, v)) :
    Calls Tryz.prog 95 #[.slice A L.length c, .int .i64 k] w fun en w' => en = .returned (.tuple #[.bool e, .bool v]) ∧ Below w.heap.size w w' := by
  have := isEdge_any G hk R hl
  rw [h] at this
  exact this

theorem Concat2_eq {xs ys zs : List H3} {A1 A2 : Option Addr} {c1 c2 gb : Nat} {w : World} (hz : xs ++ ys = zs) (R1 : R3 44 w A1 c1 xs) (R2 : R3 44 w A2 c2 ys) (hx : 0 < xs.length ∧ xs.length ≤ 400) (hy : 0 < ys.length ∧ ys.length ≤ 400)
    (hb : w.heap[gb]? = some (.cells #[.slice A1 xs.length c1, .slice A2 ys.length c2] 24 (0, 0))) :
    Calls Tryz.prog 93 #[.slice (some ⟨gb, 0, none⟩) 2 2] w (InsPost w.heap.size w zs) := by
  subst hz; exact Concat2_any R1 R2 hx hy hb

theorem meet_void {L out : List H3} {ok : Bool} (h : pickI L L.length = none) (hr : (if 40 < (makeI L).length then ([], false) else (makeI L, true)) = (out, ok)) : out = [] ∧ ok = true := by
  rw [makeI_none h] at hr
  simp at hr
  simp_all
theorem meet_some {L out o : List H3} {ok : Bool} (h : pickI L L.length = some o) (hr : (if 40 < (makeI L).length then ([], false) else (makeI L, true)) = (out, ok)) : (¬ 40 < o.length → out = o ∧ ok = true) ∧ (40 < o.length → out = [] ∧ ok = false) := by
  rw [makeI_some h] at hr
  refine ⟨fun hl => ?_, fun hl => ?_⟩
  · rw [if_neg hl] at hr; simp at hr; simp_all
  · rw [if_pos hl] at hr; simp at hr; simp_all

set_option maxRecDepth 100000 in
set_option maxHeartbeats 4000000 in
theorem meetAll_any {hs out : List H3} {ok : Bool} {A : Option Addr} {c : Nat} {w : World} (G : ∀ g ∈ hs, HOk g) (R : R3 44 w A c hs) (hl : 0 < hs.length ∧ hs.length ≤ 300) (hr : Hid (meetR hs = (out, ok))) :
    Calls Tryz.prog 56 #[.slice A hs.length c] w (RegPost w out ok) := by
  obtain ⟨i0, hi, hz0, hz1, hz2⟩ := info_parts info_half
  have hl1 := hl.1
  have hl2 := hl.2
  have Gf : ∀ g ∈ frameH ++ hs, HOk g := fun g hg => by
    rcases List.mem_append.1 hg with h | h
    · exact frameH_ok g h
    · exact G g h
  have hcm := sorted4_comm G
  have hfl : (frameH ++ hs).length ≤ 304 := by simp [frameH]; omega
  obtain ⟨fh, hfh⟩ : ∃ fh, frameH ++ hs = fh := ⟨_, rfl⟩
  have HFH := Lib.hid hfh
  rw [hfh] at hcm Gf hfl
  have HC := Lib.hid hcm
  clear hcm hfh
  go_enter Tryz.func56, Tryz.ntmps56
  go_wp2_with fail
  refine FrameHalves_any.mono ?_
  rintro e w1 ⟨A1, c1, rfl, R1, hb1⟩
  have hb1w : Below w.heap.size w w1 := ((Below.refl _ _).alloc (Nat.le_refl _) _).trans (hb1.mono (by simp))
  have s1 : w.heap.size < w1.heap.size := by have := hb1.size; simp at this; omega
  have box2 : w1.heap[w.heap.size]? = some (.cells #[.slice none 0 0] 26 (0, 0)) := (hb1.block _ (by simp)).trans (heap_alloc_new _ _)
  have Rw1 := R3.below R hb1w
  go_wp2_with fail
  refine (Concat2_eq HFH.out (R3.alloc R1.r3 _) (R3.alloc Rw1 _) ⟨by decide, by decide⟩ ⟨hl1, by omega⟩ (heap_alloc_new _ _)).mono ?_
  rintro e w2 ⟨A2, c2, rfl, R2, hb2⟩
  have hb2w : Below w.heap.size w w2 := (hb1w.alloc (by omega) _).trans (hb2.mono (by simp; omega))
  have s2 : w.heap.size < w2.heap.size := by have := hb2.size; simp at this; omega
  have box2' : w2.heap[w.heap.size]? = some (.cells #[.slice none 0 0] 26 (0, 0)) := (hb2.block _ (by simp; omega)).trans (alloc_blk box2)
  clear box2
  go_wp2_with fail
  refine (tightest_any Gf R2.r3 (by omega)).mono ?_
  rintro e w3 ⟨A3, c3, rfl, R3', hb3⟩
  rw [HC.out] at R3'
  obtain ⟨L, hL⟩ : ∃ L, sorted4 hs = L := ⟨_, rfl⟩
  have hGL := good_sorted G
  have hLl : L.length ≤ 304 := by rw [← hL, ← HC.out]; have := sortH_length fh; omega
  have hr' := hr.out
  unfold meetR at hr'
  have hes := HC.out
  rw [hL] at R3' hr' hGL hes
  have hb3w : Below w.heap.size w w3 := hb2w.trans (hb3.mono (by omega))
  have s3 : w.heap.size < w3.heap.size := by have := hb3.size; omega
  have box2 : w3.heap[w.heap.size]? = some (.cells #[.slice none 0 0] 26 (0, 0)) := (hb3.block _ (by omega)).trans box2'
  have HR := Lib.hid hr'
  have HES := Lib.hid hes
  clear box2' hL hr' hr HC hes
  have RL := R3'.r3
  have GL := hGL.ok
  rw [HES.out]
  go_wp2
  go_loopw [17] (fun i wr => ∃ (k : Nat) (o : List H3) (A' : Option Addr) (c' : Nat), k ≤ L.length ∧ i = .int .i64 k ∧ Hid (pickI L k = some o) ∧ Hid (wr.heap[w3.heap.size]? = some (.cells #[.slice A' o.length c'] 26 (0, 0))) ∧ RB w3.heap.size 44 wr A' c' o ∧ Below w3.heap.size w3 wr) (fun i _ => L.length - (intOf i).toNat)
  case atStart => exact ⟨0, [], none, 0, Nat.zero_le _, rfl, Lib.hid rfl, Lib.hid (heap_alloc_new _ _), RB.nil _ _ _, (Below.refl _ _).alloc (Nat.le_refl _) _⟩
  case round =>
    obtain ⟨k, o, A', c', hk, rfl, HP, HX, RO, hb⟩ := hrel
    have HX2 := Lib.hid ((hb.block _ s3).trans box2)
    have hbs := hb.size
    have hbw : Below w.heap.size w wr := hb3w.trans (hb.mono (by omega))
    have x2 := cell_blk (j := 0) (v := .slice none 0 0) HX2.out rfl
    have x5 := cell_blk (j := 0) (v := .slice A' o.length c') HX.out rfl
    have f2 := frozen_blk (j := 0) HX2.out
    have f5 := frozen_blk (j := 0) HX.out
    have l2 := (Array.getElem?_eq_some_iff.1 HX2.out).1
    have l5 := (Array.getElem?_eq_some_iff.1 HX.out).1
    clear box2
    by_cases hlt : k < L.length
    · obtain ⟨gL, rfl, hgL, z0, z1, z2⟩ := (RL.below hb).at_ hlt
      have RLw := RL.below hb
      obtain ⟨ed, vo, hE⟩ : ∃ e v, edgeI L k L[k] = (e, v) := ⟨_, _, rfl⟩
      have E1 : (edgeI L k L[k]).1 = ed := by rw [hE]
      have E2 : (edgeI L k L[k]).2 = vo := by rw [hE]
      have HE := Lib.hid hE
      have HE1 := Lib.hid E1
      have HE2 := Lib.hid E2
      clear hE E1 E2
      cases vo with
      | true =>
        obtain ⟨rfl, rfl⟩ := meet_void (pickI_void L.length k hlt hlt HE2.out) HR.out
        go_wp2_with (go_at_call 95; refine (calls_ov (isEdge_eq GL hlt (R3.alloc RLw _) (by omega) HE.out)).mono ?_; rintro e w' ⟨rfl, x, rfl⟩)
        refine bodyPost_ret (v := .tuple #[.agg #[.slice none 0 0], .bool true]) (by simp [results, Tryz.results56, go_sem, x2, l2]) rfl ⟨none, 0, rfl, RB.nil _ _ _, ?_⟩
        exact (by repeat (first | exact hbw | refine bO ?_ | refine bA ?_ | refine bS ?_ | refine bD ?_ | refine bN ?_))
      | false =>
        cases ed with
        | false =>
          have HN := Lib.hid (pickI_skip hlt HP.out HE2.out HE1.out)
          go_wp2_with (go_at_call 95; refine (calls_ov (isEdge_eq GL hlt (R3.alloc RLw _) (by omega) HE.out)).mono ?_; rintro e w' ⟨rfl, x, rfl⟩)
          go_roundw
          case rel => exact ⟨k + 1, o, A', c', by omega, by go_num, HN, Lib.hid (ov_blk (alloc_blk HX.out)), RO.below (by repeat (first | exact bR | refine bO ?_ | refine bA ?_ | refine bS ?_ | refine bD ?_ | refine bN ?_)), (by repeat (first | exact hb | refine bO ?_ | refine bA ?_ | refine bS ?_ | refine bD ?_ | refine bN ?_))⟩
          case measure => simp [intOf]; omega
        | true =>
          have HN := Lib.hid (pickI_take hlt HP.out HE2.out HE1.out)
          have ol := pickI_len HP.out
          go_wp2_with (first | (go_at_call 95; refine (calls_ov (isEdge_eq GL hlt (R3.alloc RLw _) (by omega) HE.out)).mono ?_; rintro e w' ⟨rfl, x, rfl⟩) | (at_builtin; refine wpList_append_own _ rfl _ _ 24 rfl w3.heap.size 44 i0 (.agg #[.int .i64 0, .int .i64 0, .int .i64 0]) 3 24 Tryz.underlying24 hi hz0 hz1 hz2 rfl (by decide) _ _ _ rfl (RO.below (by repeat (first | exact bR | refine bO ?_ | refine bA ?_ | refine bS ?_ | refine bD ?_ | refine bN ?_))) ⟨_, 0, none⟩ 1 1 (cells3 [L[k]]) rfl rfl (news_at (heap_alloc_new _ _)) (cells3_one _) (by unfold maxLen; omega) (by omega) (by simp [ov_size]; omega) ?_; intro v2 w2 O2 hg2 _; obtain ⟨A5, c5, rfl, RO5⟩ := own_slice1 O2; have HX5 := Lib.hid ((hg2.block _ (by simp [ov_size]; omega) (RB.ne_box (RO.below (w' := wr) (Below.refl _ _)) HX.out (by decide))).trans (alloc_blk (ov_blk (alloc_blk HX.out)))); have y5 := cell_blk (j := 0) (v := .slice A' o.length c') HX5.out rfl; have g5 := frozen_blk (j := 0) HX5.out; have m5 := (Array.getElem?_eq_some_iff.1 HX5.out).1; have HG := Lib.hid hg2; clear hg2 O2))
          go_roundw
          case rel => exact ⟨k + 1, o ++ [L[k]], A5, c5, by omega, by go_num, HN, Lib.hid (by rw [List.length_append]; exact heap_setCell_same _ _ 0 _ _ _ HX5.out), RO5.set_box HX5.out (by decide), (grown_below (B := w3.heap.size) (by repeat (first | exact hb | refine bO ?_ | refine bA ?_ | refine bS ?_ | refine bD ?_ | refine bN ?_)) HG.out (fun k hk => ((RO.lt k hk).1)) (Nat.le_refl _)).setCell (show w3.heap.size ≤ (⟨w3.heap.size, 0, none⟩ : Addr).block from Nat.le_refl _) _⟩
          case measure => simp [intOf]; omega
    · obtain rfl : k = L.length := by omega
      obtain ⟨m1, m2⟩ := meet_some HP.out HR.out
      by_cases hlen : 40 < o.length
      · obtain ⟨rfl, rfl⟩ := m2 hlen
        clear m1 m2
        go_wp2
        refine bodyPost_ret (v := .tuple #[.agg #[.slice none 0 0], .bool false]) (by simp [results, Tryz.results56, go_sem, x2, l2]) rfl ⟨none, 0, rfl, RB.nil _ _ _, ?_⟩
        exact (by repeat (first | exact hbw | refine bO ?_ | refine bA ?_ | refine bS ?_ | refine bD ?_ | refine bN ?_))
      · obtain ⟨rfl, rfl⟩ := m1 hlen
        clear m1 m2
        go_wp2
        refine bodyPost_ret (v := .tuple #[.agg #[.slice A' out.length c'], .bool true]) (by simp [results, Tryz.results56, go_sem, x2, l2]) rfl ⟨A', c', rfl, ?_, ?_⟩
        · exact (RO.weak (by omega)).set_box HX2.out (by decide)
        · exact (by repeat (first | exact hbw | refine bO ?_ | refine bA ?_ | refine bS ?_ | refine bD ?_ | refine bN ?_))
end Go.Proofs.YtabmfaamadbefaaGreat
/- Contracts of areHalves, RegionFrom, slices.Equal, SameRegion, IsVoid and RegionOk of the program. No condition but that lengths are ints. -/
set_option linter.unusedSimpArgs false
set_option linter.unusedVariables false
set_option linter.unusedSectionVars false
namespace Go.Proofs.YtabmfaamadbefaaGreat
open Go.RowKit
theorem all_take_succ {α : Type} (p : α → Bool) (l : List α) (k : Nat) (hk : k < l.length) : (l.take (k + 1)).all p = ((l.take k).all p && p l[k]) := by
  rw [List.take_succ_eq_append_getElem hk, List.all_append]; simp

set_option maxHeartbeats 1000000 in
theorem areHalves_eq {hs : List H3} {A : Option Addr} {c : Nat} {w : World} {v : Bool} (R : R3 44 w A c hs) (hl : hs.length ≤ 1000) (h : Hid (hs.all halfOk = v)) :
    Calls Tryz.prog 118 #[.slice A hs.length c] w fun e w' => e = .returned (.bool v) ∧ Below w.heap.size w w' := by
  go_enter Tryz.func118, Tryz.ntmps118
  go_wp2
  go_loopw [7] (fun i wr => ∃ k : Nat, k ≤ hs.length ∧ i = .int .i64 k ∧ Hid ((hs.take k).all halfOk = true) ∧ Below w.heap.size w wr) (fun i _ => hs.length - (intOf i).toNat)
  case atStart => exact ⟨0, Nat.zero_le _, rfl, Lib.hid rfl, Below.refl _ _⟩
  case round =>
    obtain ⟨k, hk, rfl, HA, hb⟩ := hrel
    have hbs := hb.size
    by_cases hlt : k < hs.length
    · obtain ⟨g0, rfl, hg0, z0, z1, z2⟩ := (R.below hb).at_ hlt
      have HT := Lib.hid (all_take_succ halfOk hs k hlt)
      obtain ⟨b, hb0⟩ : ∃ b, halfOk hs[k] = b := ⟨_, rfl⟩
      have HB := Lib.hid hb0
      clear hb0
      cases b with
      | true =>
        go_wp2_with ((go_at_call 55; (first | (with_reducible refine (calls_ov2 (impl_HalfOk_eq HB.out)).mono ?_) | refine (calls_ov (impl_HalfOk_eq HB.out)).mono ?_); rintro e w' ⟨rfl, x, rfl⟩))
        go_roundw
        case rel => exact ⟨k + 1, by omega, by go_num, Lib.hid (by rw [HT.out, HA.out, HB.out]; rfl), (by repeat (first | exact hb | refine bO ?_ | refine bA ?_ | refine bS ?_ | refine bD ?_ | refine bN ?_))⟩
        case measure => simp [intOf]; omega
      | false =>
        obtain rfl : v = false := by
          rw [← h.out, List.all_eq_false]
          exact ⟨hs[k], List.getElem_mem hlt, by rw [HB.out]; simp⟩
        go_wp2_with ((go_at_call 55; (first | (with_reducible refine (calls_ov2 (impl_HalfOk_eq HB.out)).mono ?_) | refine (calls_ov (impl_HalfOk_eq HB.out)).mono ?_); rintro e w' ⟨rfl, x, rfl⟩))
        go_ret
        exact ⟨rfl, (by repeat (first | exact hb | refine bO ?_ | refine bA ?_ | refine bS ?_ | refine bD ?_ | refine bN ?_))⟩
    · obtain rfl : k = hs.length := by omega
      obtain rfl : v = true := by rw [← h.out, ← HA.out, List.take_length]
      go_wp2
      go_ret
      exact ⟨rfl, hb⟩

section
theorem half_fields : Tryz.prog.underlying 44 = some (.struct (Tryz.prog.fieldsOf 44)) := by kernel_rfl
theorem half_stood : Tryz.prog.stoodInHeld 44 = false := by kernel_rfl
theorem half_guard : Tryz.prog.eqGuardType Tryz.prog.depth 44 = false := by kernel_rfl
@[go_sem] theorem run_guard_half (op : BinOp) (x y : Operand) (xs ys : Array Value) (w : World) : (eqGuard op 44 x y (.agg xs) (.agg ys)).run Tryz.prog w = .ok () w := run_eqGuard_agg w op _ x y xs ys half_guard
@[go_sem] theorem run_equal_half (a b c a' b' c' : Int) (w : World) : (Op.equalIn 10000 44 (.agg #[.int .i64 a, .int .i64 b, .int .i64 c]) (.agg #[.int .i64 a', .int .i64 b', .int .i64 c'])).run Tryz.prog w = .ok (decide (a = a' ∧ b = b' ∧ c = c')) w := by
  rw [show (10000 : Nat) = 9999 + 1 from rfl, run_equalIn_agg w 9999 44 _ _ half_fields half_stood]
  simp only [Program.fieldsOf, Tryz.underlying44]
  go_simp
  by_cases h1 : a = a' <;> by_cases h2 : b = b' <;> by_cases h3 : c = c' <;> simp [h1, h2, h3]
@[go_sem] theorem run_neq_half (a b c a' b' c' : Int) (w : World) : (binOp .neq 44 (.agg #[.int .i64 a, .int .i64 b, .int .i64 c]) (.agg #[.int .i64 a', .int .i64 b', .int .i64 c'])).run Tryz.prog w = .ok (.bool (!decide (a = a' ∧ b = b' ∧ c = c'))) w := by
  rw [run_neq_struct, run_equal_half]; rfl
end
theorem h3_eq {g h : H3} : g = h ↔ g.a = h.a ∧ g.b = h.b ∧ g.c = h.c := by cases g; cases h; simp

set_option maxHeartbeats 1000000 in
theorem Equal_eq {xs ys : List H3} {A1 A2 : Option Addr} {c1 c2 : Nat} {w : World} {v : Bool} (R1 : R3 44 w A1 c1 xs) (R2 : R3 44 w A2 c2 ys) (hx : xs.length ≤ 1000000000) (hy : ys.length ≤ 1000000000) (h : Hid (decide (xs = ys) = v)) :
    Calls Tryz.prog 62 #[.slice A1 xs.length c1, .slice A2 ys.length c2] w fun e w' => e = .returned (.bool v) ∧ Below w.heap.size w w' := by
  by_cases hne : xs.length = ys.length
  · have hz : ((xs.length : Int) != (ys.length : Int)) = false := by simp; omega
    have HNE := Lib.hid hne
    clear hne
    go_enter Tryz.func62, Tryz.ntmps62
    go_wp2
    go_loopw [13] (fun i wr => ∃ k : Nat, k ≤ xs.length ∧ i = .int .i64 k ∧ Hid (xs.take k = ys.take k) ∧ Below w.heap.size w wr) (fun i _ => xs.length - (intOf i).toNat)
    case atStart => exact ⟨0, Nat.zero_le _, rfl, Lib.hid rfl, Below.refl _ _⟩
    case round =>
      obtain ⟨k, hk, rfl, HA, hb⟩ := hrel
      have hbs := hb.size
      by_cases hlt : k < xs.length
      · have hlt2 : k < ys.length := by have := HNE.out; omega
        obtain ⟨g1, rfl, hg1, z0, z1, z2⟩ := (R1.below hb).at_ hlt
        obtain ⟨g2, rfl, hg2, y0, y1, y2⟩ := (R2.below hb).at_ hlt2
        have hcase : (xs[k] = ys[k] ∧ xs[k].a = ys[k].a ∧ xs[k].b = ys[k].b ∧ xs[k].c = ys[k].c) ∨ (xs[k] ≠ ys[k] ∧ (¬ xs[k].a = ys[k].a ∨ (xs[k].a = ys[k].a ∧ ¬ xs[k].b = ys[k].b) ∨ (xs[k].a = ys[k].a ∧ xs[k].b = ys[k].b ∧ ¬ xs[k].c = ys[k].c))) := by
          have := @h3_eq xs[k] ys[k]
          by_cases e1 : xs[k].a = ys[k].a <;> by_cases e2 : xs[k].b = ys[k].b <;> by_cases e3 : xs[k].c = ys[k].c <;> simp_all
        rcases hcase with ⟨he, e1, e2, e3⟩ | ⟨hne, e⟩
        · have HE := Lib.hid he
          rw [e1] at z0
          rw [e2] at z1
          rw [e3] at z2
          clear he e1 e2 e3
          go_wp2
          ((first | (with_reducible refine wp_region_calm2 (by kernel_rfl) (by kernel_rfl) ?_) | refine wp_region_calm (by kernel_rfl) (by kernel_rfl) ?_); (repeat (go_big_quiet_step (first | fail))); refine wpQuiet_nil ?_; rintro _ ⟨y, rfl⟩)
          go_wp2
          go_roundw
          case rel => exact ⟨k + 1, by omega, by go_num, Lib.hid (by rw [List.take_succ_eq_append_getElem hlt, List.take_succ_eq_append_getElem hlt2, HA.out, HE.out]), (by repeat (first | exact hb | refine bO ?_ | refine bA ?_ | refine bS ?_ | refine bD ?_ | refine bN ?_))⟩
          case measure => simp [intOf]; omega
        · obtain rfl : v = false := by
            rw [← h.out, decide_eq_false_iff_not]
            intro e
            subst e
            exact hne rfl
          clear hne
          rcases e with e1 | ⟨e1, e2⟩ | ⟨e1, e2, e3⟩
          · go_wp2
            ((first | (with_reducible refine wp_region_calm2 (by kernel_rfl) (by kernel_rfl) ?_) | refine wp_region_calm (by kernel_rfl) (by kernel_rfl) ?_); (repeat (go_big_quiet_step (first | fail))); refine wpQuiet_nil ?_; rintro _ ⟨y, rfl⟩)
            go_wp2
            go_ret
            exact ⟨rfl, (by repeat (first | exact hb | refine bO ?_ | refine bA ?_ | refine bS ?_ | refine bD ?_ | refine bN ?_))⟩
          · rw [e1] at z0
            clear e1
            go_wp2
            ((first | (with_reducible refine wp_region_calm2 (by kernel_rfl) (by kernel_rfl) ?_) | refine wp_region_calm (by kernel_rfl) (by kernel_rfl) ?_); (repeat (go_big_quiet_step (first | fail))); refine wpQuiet_nil ?_; rintro _ ⟨y, rfl⟩)
            go_wp2
            go_ret
            exact ⟨rfl, (by repeat (first | exact hb | refine bO ?_ | refine bA ?_ | refine bS ?_ | refine bD ?_ | refine bN ?_))⟩
          · rw [e1] at z0
            rw [e2] at z1
            clear e1 e2
            go_wp2
            ((first | (with_reducible refine wp_region_calm2 (by kernel_rfl) (by kernel_rfl) ?_) | refine wp_region_calm (by kernel_rfl) (by kernel_rfl) ?_); (repeat (go_big_quiet_step (first | fail))); refine wpQuiet_nil ?_; rintro _ ⟨y, rfl⟩)
            go_wp2
            go_ret
            exact ⟨rfl, (by repeat (first | exact hb | refine bO ?_ | refine bA ?_ | refine bS ?_ | refine bD ?_ | refine bN ?_))⟩
      · obtain rfl : k = xs.length := by omega
        obtain rfl : v = true := by
          rw [← h.out, decide_eq_true_eq]
          have := HA.out
          rwa [List.take_length, HNE.out, List.take_length] at this
        go_wp2
        go_ret
        exact ⟨rfl, hb⟩
  · obtain rfl : v = false := by
      rw [← h.out, decide_eq_false_iff_not]
      intro e
      subst e
      exact hne rfl
    have hz : ((xs.length : Int) != (ys.length : Int)) = true := by simp; omega
    have hz' : ¬ ((xs.length : Int) = (ys.length : Int)) := by omega
    clear hne
    go_enter Tryz.func62, Tryz.ntmps62
    go_wp2
    go_ret
    exact ⟨rfl, Below.refl _ _⟩

theorem SameRegion_eq {xs ys : List H3} {A1 A2 : Option Addr} {c1 c2 : Nat} {w : World} {v : Bool} (R1 : R3 44 w A1 c1 xs) (R2 : R3 44 w A2 c2 ys) (hx : xs.length ≤ 1000000000) (hy : ys.length ≤ 1000000000) (h : Hid (decide (xs = ys) = v)) :
    Calls Tryz.prog 22 #[.agg #[.slice A1 xs.length c1], .agg #[.slice A2 ys.length c2]] w fun e w' => e = .returned (.bool v) ∧ Below w.heap.size w w' := by
  go_enter Tryz.func22, Tryz.ntmps22
  go_wp2_with (go_at_call 62; refine (calls_ov (Equal_eq (R3.alloc (R3.alloc R1 _) _) (R3.alloc (R3.alloc R2 _) _) hx hy h)).mono ?_; rintro e w' ⟨rfl, x, rfl⟩)
  go_ret
  exact ⟨rfl, (by repeat (first | exact bR | refine bO ?_ | refine bA ?_ | refine bS ?_ | refine bD ?_ | refine bN ?_))⟩
theorem IsVoid_eq {n c : Nat} {A : Option Addr} {w : World} {v : Bool} (h : Hid (decide (n = 0) = v)) :
    Calls Tryz.prog 20 #[.agg #[.slice A n c]] w fun e w' => e = .returned (.bool v) ∧ Below w.heap.size w w' := by
  cases v with
  | true =>
    obtain rfl : n = 0 := by have := h.out; simpa using this
    go_enter Tryz.func20, Tryz.ntmps20
    go_wp2
    go_ret
    exact ⟨rfl, (by repeat (first | exact bR | refine bO ?_ | refine bA ?_ | refine bS ?_ | refine bD ?_ | refine bN ?_))⟩
  | false =>
    have hn : ¬ n = 0 := by have := h.out; simpa using this
    have hz : ((n : Int) == 0) = false := by simp; omega
    go_enter Tryz.func20, Tryz.ntmps20
    go_wp2
    go_ret
    exact ⟨rfl, (by repeat (first | exact bR | refine bO ?_ | refine bA ?_ | refine bS ?_ | refine bD ?_ | refine bN ?_))⟩

/-- RegionFrom of half planes, and RegionOk. -/
def fromR (hs : List H3) : List H3 × Bool := if hs.length ≤ 40 ∧ hs.all halfOk = true then meetR hs else ([], false)
def regionOk (hs : List H3) : Bool := decide (hs = []) || ((fromR hs).2 && decide (hs = (fromR hs).1))

theorem allOk {hs : List H3} (h : hs.all halfOk = true) : ∀ g ∈ hs, HOk g := fun g hg => (halfOk_iff g).1 (List.all_eq_true.1 h g hg)

set_option maxHeartbeats 1000000 in
theorem RegionFrom_eq {hs out : List H3} {ok : Bool} {A : Option Addr} {c : Nat} {w : World} (R : R3 44 w A c hs) (hl : 0 < hs.length ∧ hs.length ≤ 1000000000) (h : Hid (fromR hs = (out, ok))) :
    Calls Tryz.prog 88 #[.slice A hs.length c] w (RegPost w out ok) := by
  have hl1 := hl.1
  have hl2 := hl.2
  by_cases h40 : 40 < hs.length
  · have h' := h.out
    unfold fromR at h'
    rw [if_neg (by omega)] at h'
    simp at h'
    obtain ⟨rfl, rfl⟩ := h'
    go_enter Tryz.func88, Tryz.ntmps88
    go_wp2
    refine bodyPost_ret (v := .tuple #[.agg #[.slice none 0 0], .bool false]) (by simp [results, Tryz.results88, go_sem]) rfl ⟨none, 0, rfl, RB.nil _ _ _, (by repeat (first | exact bR | refine bO ?_ | refine bA ?_ | refine bS ?_ | refine bD ?_ | refine bN ?_))⟩
  · obtain ⟨b, hb⟩ : ∃ b, hs.all halfOk = b := ⟨_, rfl⟩
    have HB := Lib.hid hb
    cases b with
    | false =>
      have h' := h.out
      unfold fromR at h'
      rw [if_neg (by simp [hb])] at h'
      simp at h'
      obtain ⟨rfl, rfl⟩ := h'
      clear hb
      go_enter Tryz.func88, Tryz.ntmps88
      go_wp2_with (go_at_call 118; refine (calls_ov (areHalves_eq (R3.alloc R _) (by omega) HB)).mono ?_; rintro e w' ⟨rfl, x, rfl⟩)
      refine bodyPost_ret (v := .tuple #[.agg #[.slice none 0 0], .bool false]) (by simp [results, Tryz.results88, go_sem]) rfl ⟨none, 0, rfl, RB.nil _ _ _, (by repeat (first | exact bR | refine bO ?_ | refine bA ?_ | refine bS ?_ | refine bD ?_ | refine bN ?_))⟩
    | true =>
      have h' := h.out
      unfold fromR at h'
      rw [if_pos ⟨by omega, hb⟩] at h'
      have HM := Lib.hid h'
      have G := allOk hb
      clear hb h'
      go_enter Tryz.func88, Tryz.ntmps88
      go_wp2_with (go_at_call 118; refine (calls_ov (areHalves_eq (R3.alloc R _) (by omega) HB)).mono ?_; rintro e w' ⟨rfl, x, rfl⟩)
      refine (meetAll_any G (R3.ov (R3.alloc R _) x) ⟨hl1, by omega⟩ HM).mono ?_
      rintro e w1 ⟨A1, c1, rfl, R1, hb1⟩
      have hbw : Below w.heap.size w w1 := ((below_ov _ x ((Below.refl _ _).alloc (Nat.le_refl _) _) (by simp)).trans (hb1.mono (by simp [ov_size]; omega)))
      have HX := Lib.hid ((hb1.block _ (by simp [ov_size]; omega)).trans (ov_blk (heap_alloc_new _ _)))
      have x2 := cell_blk (j := 0) (v := .slice none 0 0) HX.out rfl
      have f2 := frozen_blk (j := 0) HX.out
      have l2 := (Array.getElem?_eq_some_iff.1 HX.out).1
      have HR1 := R1.weak (B' := w.heap.size) (by simp [ov_size]; omega)
      clear R1 hb1
      go_wp2
      refine bodyPost_ret (v := .tuple #[.agg #[.slice A1 out.length c1], .bool ok]) (by simp [results, Tryz.results88, go_sem, x2, l2]) rfl ⟨A1, c1, rfl, HR1.set_box HX.out (by decide), hbw.setCell (show w.heap.size ≤ (⟨w.heap.size, 0, none⟩ : Addr).block from Nat.le_refl _) _⟩

set_option maxHeartbeats 1000000 in
theorem impl_RegionOk_eq {hs : List H3} {v : Bool} {A : Option Addr} {c : Nat} {w : World} (R : R3 44 w A c hs) (hl : hs.length ≤ 1000000000) (h : Hid (regionOk hs = v)) :
    Calls Tryz.prog 51 #[.agg #[.slice A hs.length c]] w fun e w' => e = .returned (.bool v) ∧ Below w.heap.size w w' := by
  by_cases h0 : hs = []
  · obtain rfl : v = true := by rw [← h.out]; unfold regionOk; simp [h0]
    obtain ⟨n, hn⟩ : ∃ n, hs.length = n := ⟨_, rfl⟩
    have hn0 : n = 0 := by rw [← hn, h0]; rfl
    rw [hn]
    subst hn0
    clear h0 hn
    go_enter Tryz.func51, Tryz.ntmps51
    go_wp2
    go_ret
    exact ⟨rfl, (by repeat (first | exact bR | refine bO ?_ | refine bA ?_ | refine bS ?_ | refine bD ?_ | refine bN ?_))⟩
  · have hl0 : 0 < hs.length := List.length_pos_iff.2 h0
    have hz : ((hs.length : Int) == 0) = false := by simp; omega
    have hz' : ¬ ((hs.length : Int) = 0) := by omega
    obtain ⟨⟨out, ok⟩, hf⟩ : ∃ z, fromR hs = z := ⟨_, rfl⟩
    have hv := h.out
    unfold regionOk at hv
    rw [hf] at hv
    have HF := Lib.hid hf
    have hol : out.length ≤ 1000000000 := by
      have : out = [] ∨ out.length ≤ 40 := by
        unfold fromR meetR at hf
        split at hf
        · split at hf
          · simp at hf; exact .inl hf.1
          · simp at hf; right; rw [← hf.1]; omega
        · simp at hf; exact .inl hf.1
      rcases this with e | e
      · rw [e]; simp
      · omega
    simp only [h0, decide_false, Bool.false_or] at hv
    have HV := Lib.hid hv
    clear hv hf h h0
    go_enter Tryz.func51, Tryz.ntmps51
    go_wp2_with fail
    refine (RegionFrom_eq (R3.alloc R _) ⟨hl0, hl⟩ HF).mono ?_
    rintro e w1 ⟨A1, c1, rfl, R1, hb1⟩
    have hbw : Below w.heap.size w w1 := ((Below.refl _ _).alloc (Nat.le_refl _) _).trans (hb1.mono (by simp))
    have HX := Lib.hid ((hb1.block _ (by simp)).trans (heap_alloc_new _ _))
    have x2 := cell_blk (j := 0) (v := .slice A hs.length c) HX.out rfl
    have l2 := (Array.getElem?_eq_some_iff.1 HX.out).1
    have RH := R3.below R hbw
    have R1' := R1.r3
    cases ok with
    | false =>
      obtain rfl : v = false := by rw [← HV.out]; rfl
      go_wp2
      go_ret
      exact ⟨rfl, (by repeat (first | exact hbw | refine bO ?_ | refine bA ?_ | refine bS ?_ | refine bD ?_ | refine bN ?_))⟩
    | true =>
      have HS := Lib.hid (show decide (hs = out) = v by rw [← HV.out]; rfl)
      go_wp2_with (go_at_call 22; refine (calls_ov (SameRegion_eq (R3.alloc RH _) (R3.alloc R1' _) hl hol HS)).mono ?_; rintro e w' ⟨rfl, x, rfl⟩)
      go_ret
      exact ⟨rfl, (by repeat (first | exact hbw | refine bO ?_ | refine bA ?_ | refine bS ?_ | refine bD ?_ | refine bN ?_))⟩
end Go.Proofs.YtabmfaamadbefaaGreat