/- Contracts of PullBack, of the program and of the reference. Condition: the arguments are ints. -/
import Derived.Test.YtabmfaamadbefaaGreatMj
set_option linter.unusedSimpArgs false
set_option linter.unusedVariables false
set_option linter.unusedSectionVars false
namespace Go.Proofs.YtabmfaamadbefaaGreat
open Go.RowKit
def pullF (a b e f q : Int) (g : H3) : H3 × Bool := halfOf (g.a * a + g.b * e) (g.a * b + g.b * f) (g.c * q)
structure MatBd (a b e f q : Int) : Prop where
  ba : -20 ≤ a ∧ a ≤ 20
  bb : -20 ≤ b ∧ b ≤ 20
  be : -20 ≤ e ∧ e ≤ 20
  bf : -20 ≤ f ∧ f ≤ 20
  bq : 1 ≤ q ∧ q ≤ 20
structure PullBd (a b e f q : Int) (g : H3) : Prop where
  p1 : -100000000000 ≤ g.a * a ∧ g.a * a ≤ 100000000000
  p2 : -100000000000 ≤ g.b * e ∧ g.b * e ≤ 100000000000
  p3 : -100000000000 ≤ g.a * b ∧ g.a * b ≤ 100000000000
  p4 : -100000000000 ≤ g.b * f ∧ g.b * f ≤ 100000000000
  p5 : -1000000000000000 ≤ g.c * q ∧ g.c * q ≤ 1000000000000000
theorem pullBd {a b e f q : Int} {g : H3} (k : HOk g) (M : MatBd a b e f q) : PullBd a b e f q g := by
  have h1 := k.ba
  have h2 := k.bb
  have h3 := k.bc
  have hq := M.bq
  have p1 := mul_bd (x := g.a) (y := a) h1 M.ba
  have p2 := mul_bd (x := g.b) (y := e) h2 M.be
  have p3 := mul_bd (x := g.a) (y := b) h1 M.bb
  have p4 := mul_bd (x := g.b) (y := f) h2 M.bf
  have p5 := mul_bd (x := g.c) (y := q) h3 (B := 20) (by omega)
  exact ⟨by omega, by omega, by omega, by omega, by omega⟩
def detI (m : List Int) : Int := m.getD 0 0 * m.getD 3 0 - m.getD 1 0 * m.getD 2 0
def turnOk (m : List Int) (q : Int) : Bool := mapOk m q && (detI m != 0)
theorem mapOk_parts {m : List Int} {q : Int} (hm : mapOk m q = true) : ∃ a b e f, m = [a, b, e, f] ∧ MatBd a b e f q := by
  unfold mapOk at hm
  simp only [Bool.and_eq_true, decide_eq_true_eq] at hm
  obtain ⟨⟨h4, hq⟩, hall⟩ := hm
  match m, h4 with
  | [a, b, e, f], _ =>
    simp only [List.all_cons, List.all_nil, Bool.and_true, Bool.and_eq_true, smallI, inR_iff] at hall
    obtain ⟨ha, hb, he, hf⟩ := hall
    have hq := inR_iff.1 hq
    exact ⟨a, b, e, f, rfl, ha, hb, he, hf, by omega⟩

set_option maxRecDepth 100000 in
set_option maxHeartbeats 4000000 in
theorem isTurnable_eq {m : List Int} {q : Int} {A : Option Addr} {c : Nat} {w : World} {v : Bool} (R : RI w A m) (hl : m.length ≤ 1000000000) (h : Hid (turnOk m q = v)) :
    Calls Tryz.prog 48 #[.slice A m.length c, .int .i64 q] w fun e w' => e = .returned (.bool v) ∧ Below w.heap.size w w' := by
  have h' := h.out
  clear h
  unfold turnOk at h'
  cases hm : mapOk m q with
  | false =>
    rw [hm, Bool.false_and] at h'
    subst h'
    have HM := Lib.hid hm
    clear hm
    go_enter Tryz.func48, Tryz.ntmps48
    go_wp2
    ((first | (with_reducible refine wp_region_calm2 (by kernel_rfl) (by kernel_rfl) ?_) | refine wp_region_calm (by kernel_rfl) (by kernel_rfl) ?_); (repeat (go_big_quiet_step (first | (go_at_call 87; exact calm_below (isMap_eq (by exact R.below (by repeat (first | exact bR | refine bO ?_ | refine bA ?_ | refine bS ?_ | refine bD ?_ | refine bN ?_))) hl HM))))); refine wpQuiet_nil ?_; rintro _ ⟨y, rfl⟩)
    go_wp2
    go_ret
    exact ⟨rfl, (by repeat (first | exact bR | refine bO ?_ | refine bA ?_ | refine bS ?_ | refine bD ?_ | refine bN ?_))⟩
  | true =>
    rw [hm, Bool.true_and] at h'
    obtain ⟨a, b, e, f, rfl, M⟩ := mapOk_parts hm
    have HM := Lib.hid hm
    have p1 := mul_bd M.ba M.bf
    have p2 := mul_bd M.bb M.be
    have hd : (a * f - b * e != 0) = v := h'
    obtain ⟨g, o, rfl, hg, c0, c1, c2, c3⟩ := R.four
    clear hm h'
    go_enter Tryz.func48, Tryz.ntmps48
    go_wp2
    ((first | (with_reducible refine wp_region_calm2 (by kernel_rfl) (by kernel_rfl) ?_) | refine wp_region_calm (by kernel_rfl) (by kernel_rfl) ?_); (repeat (go_big_quiet_step (first | (go_at_call 87; exact calm_below (isMap_eq (m := [a, b, e, f]) (by exact R.below (by repeat (first | exact bR | refine bO ?_ | refine bA ?_ | refine bS ?_ | refine bD ?_ | refine bN ?_))) hl HM))))); refine wpQuiet_nil ?_; rintro _ ⟨y, rfl⟩)
    go_wp2
    go_ret
    exact ⟨rfl, (by repeat (first | exact bR | refine bO ?_ | refine bA ?_ | refine bS ?_ | refine bD ?_ | refine bN ?_))⟩

set_option maxRecDepth 100000 in
set_option maxHeartbeats 4000000 in
theorem pull_step {g m : H3} {v : Bool} {a b e f q : Int} {b4 b5 : Nat} {A4 : Option Addr} {C4 : Nat} {W : World} (k : HOk g) (HM : Hid (pullF a b e f q g = (m, v))) (M : MatBd a b e f q) (R : RI W A4 [a, b, e, f]) (c4 : W.cell? ⟨b4, 0, none⟩ = some (.slice A4 4 C4)) (c5 : W.cell? ⟨b5, 0, none⟩ = some (.int .i64 q)) (l4 : b4 < W.heap.size) (l5 : b5 < W.heap.size) :
    Calls Tryz.prog 120 #[.agg #[.int .i64 g.a, .int .i64 g.b, .int .i64 g.c], .pointer (some ⟨b4, 0, none⟩), .pointer (some ⟨b5, 0, none⟩)] W fun en w' => en = .returned (.tuple #[.agg #[.int .i64 m.a, .int .i64 m.b, .int .i64 m.c], .bool v]) ∧ Below W.heap.size W w' := by
  obtain ⟨p1, p2, p3, p4, p5⟩ := pullBd k M
  clear k M
  have HM : Hid (halfOf (g.a * a + g.b * e) (g.a * b + g.b * f) (g.c * q) = (m, v)) := HM
  obtain ⟨ag, og, rfl, hg, c0, c1, c2, c3⟩ := R.four
  clear R
  go_enter Tryz.func120, Tryz.ntmps120
  go_wp2
  obtain ⟨w0, hw0⟩ : ∃ w0, W.alloc (.cells #[.int .i64 g.a, .int .i64 g.b, .int .i64 g.c] 44) = w0 := ⟨_, rfl⟩
  have s0 : w0.heap.size = W.heap.size + 1 := by rw [← hw0]; simp
  have T0 : Below W.heap.size W w0 := by rw [← hw0]; exact (by repeat (first | exact bR | refine bO ?_ | refine bA ?_ | refine bS ?_ | refine bD ?_ | refine bN ?_))
  have X2 : w0.heap[W.heap.size]? = some (.cells #[.int .i64 g.a, .int .i64 g.b, .int .i64 g.c] 44 (0, 0)) := by rw [← hw0]; exact heap_alloc_new _ _
  rw [hw0, ← s0]
  have s1 : W.heap.size ≤ w0.heap.size := T0.size
  replace c0 := (T0.cell (p := ⟨ag, og, none⟩) hg).trans c0
  replace c1 := (T0.cell (p := ⟨ag, og + 1, none⟩) hg).trans c1
  replace c2 := (T0.cell (p := ⟨ag, og + 2, none⟩) hg).trans c2
  replace c3 := (T0.cell (p := ⟨ag, og + 3, none⟩) hg).trans c3
  replace c4 := (T0.cell (p := ⟨b4, 0, none⟩) l4).trans c4
  replace c5 := (T0.cell (p := ⟨b5, 0, none⟩) l5).trans c5
  have hg0 : ag < w0.heap.size := by omega
  have l40 : b4 < w0.heap.size := by omega
  have l50 : b5 < w0.heap.size := by omega
  clear hw0 s0 hg l4 l5
  have y0 := cell_blk (j := 0) (v := .int .i64 g.a) X2 rfl
  have y1 := cell_blk (j := 1) (v := .int .i64 g.b) X2 rfl
  have y2 := cell_blk (j := 2) (v := .int .i64 g.c) X2 rfl
  have l2 := (Array.getElem?_eq_some_iff.1 X2).1
  clear X2
  refine wp_region_relE (IsOld w0.heap.size 44 3) ([], []) (w := w0) (RD.pur [] ?s0 :: RD.pur [] ?s1 :: RD.pur [] ?s2 :: RD.pur [] ?s3 :: RD.pur [] ?s4 :: RD.pur [] ?s5 :: RD.pur [] ?s6 :: RD.pur [] ?s7 :: RD.pur [] ?s8 :: RD.pur [] ?s9 :: RD.pur [] ?s10 :: RD.pur [] ?s11 :: RD.pur [] ?s12 :: RD.pur [] ?s13 :: RD.pur [] ?s14 :: RD.pur [] ?s15 :: RD.pur [] ?s16 :: RD.pur [] ?s17 :: RD.pur [] ?s18 :: RD.pur [] ?s19 :: RD.pur [] ?s20 :: RD.pur [] ?s21 :: RD.pur [] ?s22 :: RD.pur [] ?s23 :: RD.pur [] ?s24 :: RD.pur [] ?s25 :: RD.pur [] ?s26 :: RD.pur [] ?s27 :: RD.pur [] ?s28 :: RD.pur [] ?s29 :: RD.pur [] ?s30 :: RD.pur [] ?s31 :: RD.pur [] ?s32 :: RD.rel [31] [31] true (IsStB w0.heap.size 44) :: RD.pur [] ?s34 :: []) _ rfl rfl (by kernel_rfl) (by kernel_rfl) (by kernel_rfl) (by kernel_rfl) ?hst isOld_ov (ov_of_below (by repeat (first | exact bR | refine bO ?_ | refine bA ?_ | refine bS ?_ | refine bD ?_ | refine bN ?_))) ⟨#[.int .i64 0, .int .i64 0, .int .i64 0], rfl, by first | exact ov_blk (heap_new_at rfl rfl) | exact ov_blk (ov_blk (heap_new_at rfl rfl)) | exact heap_new_at rfl rfl⟩ (fun vs => ?walk)
  case' walk =>
    (refine wpRelE_pur rfl rfl (fun x hh => by ((skip); (go_wp2); refine relEndE_pur rfl ?_ (by repeat (first | exact bR | refine bO ?_ | refine bA ?_ | refine bS ?_ | refine bD ?_ | refine bN ?_)); simp only [Act.put, List.setIfInBounds_toArray, List.set_cons_succ, List.set_cons_zero]; rfl)) ?_; simp only [Act.put, List.setIfInBounds_toArray, List.set_cons_succ, List.set_cons_zero])
    (refine wpRelE_pur rfl rfl (fun x hh => by ((skip); (go_wp2); refine relEndE_pur rfl ?_ (by repeat (first | exact bR | refine bO ?_ | refine bA ?_ | refine bS ?_ | refine bD ?_ | refine bN ?_)); simp only [Act.put, List.setIfInBounds_toArray, List.set_cons_succ, List.set_cons_zero]; rfl)) ?_; simp only [Act.put, List.setIfInBounds_toArray, List.set_cons_succ, List.set_cons_zero])
    (refine wpRelE_pur rfl rfl (fun x hh => by ((skip); (go_wp2); refine relEndE_pur rfl ?_ (by repeat (first | exact bR | refine bO ?_ | refine bA ?_ | refine bS ?_ | refine bD ?_ | refine bN ?_)); simp only [Act.put, List.setIfInBounds_toArray, List.set_cons_succ, List.set_cons_zero]; rfl)) ?_; simp only [Act.put, List.setIfInBounds_toArray, List.set_cons_succ, List.set_cons_zero])
    (refine wpRelE_pur rfl rfl (fun x hh => by ((skip); (go_wp2); refine relEndE_pur rfl ?_ (by repeat (first | exact bR | refine bO ?_ | refine bA ?_ | refine bS ?_ | refine bD ?_ | refine bN ?_)); simp only [Act.put, List.setIfInBounds_toArray, List.set_cons_succ, List.set_cons_zero]; rfl)) ?_; simp only [Act.put, List.setIfInBounds_toArray, List.set_cons_succ, List.set_cons_zero])
    (refine wpRelE_pur rfl rfl (fun x hh => by ((skip); (go_wp2); refine relEndE_pur rfl ?_ (by repeat (first | exact bR | refine bO ?_ | refine bA ?_ | refine bS ?_ | refine bD ?_ | refine bN ?_)); simp only [Act.put, List.setIfInBounds_toArray, List.set_cons_succ, List.set_cons_zero]; rfl)) ?_; simp only [Act.put, List.setIfInBounds_toArray, List.set_cons_succ, List.set_cons_zero])
    (refine wpRelE_pur rfl rfl (fun x hh => by ((skip); (go_wp2); refine relEndE_pur rfl ?_ (by repeat (first | exact bR | refine bO ?_ | refine bA ?_ | refine bS ?_ | refine bD ?_ | refine bN ?_)); simp only [Act.put, List.setIfInBounds_toArray, List.set_cons_succ, List.set_cons_zero]; rfl)) ?_; simp only [Act.put, List.setIfInBounds_toArray, List.set_cons_succ, List.set_cons_zero])
    (refine wpRelE_pur rfl rfl (fun x hh => by ((skip); (go_wp2); refine relEndE_pur rfl ?_ (by repeat (first | exact bR | refine bO ?_ | refine bA ?_ | refine bS ?_ | refine bD ?_ | refine bN ?_)); simp only [Act.put, List.setIfInBounds_toArray, List.set_cons_succ, List.set_cons_zero]; rfl)) ?_; simp only [Act.put, List.setIfInBounds_toArray, List.set_cons_succ, List.set_cons_zero])
    (refine wpRelE_pur rfl rfl (fun x hh => by ((skip); (go_wp2); refine relEndE_pur rfl ?_ (by repeat (first | exact bR | refine bO ?_ | refine bA ?_ | refine bS ?_ | refine bD ?_ | refine bN ?_)); simp only [Act.put, List.setIfInBounds_toArray, List.set_cons_succ, List.set_cons_zero]; rfl)) ?_; simp only [Act.put, List.setIfInBounds_toArray, List.set_cons_succ, List.set_cons_zero])
    (refine wpRelE_pur rfl rfl (fun x hh => by ((skip); (go_wp2); refine relEndE_pur rfl ?_ (by repeat (first | exact bR | refine bO ?_ | refine bA ?_ | refine bS ?_ | refine bD ?_ | refine bN ?_)); simp only [Act.put, List.setIfInBounds_toArray, List.set_cons_succ, List.set_cons_zero]; rfl)) ?_; simp only [Act.put, List.setIfInBounds_toArray, List.set_cons_succ, List.set_cons_zero])
    (refine wpRelE_pur rfl rfl (fun x hh => by ((skip); (go_wp2); refine relEndE_pur rfl ?_ (by repeat (first | exact bR | refine bO ?_ | refine bA ?_ | refine bS ?_ | refine bD ?_ | refine bN ?_)); simp only [Act.put, List.setIfInBounds_toArray, List.set_cons_succ, List.set_cons_zero]; rfl)) ?_; simp only [Act.put, List.setIfInBounds_toArray, List.set_cons_succ, List.set_cons_zero])
    (refine wpRelE_pur rfl rfl (fun x hh => by ((skip); (go_wp2); refine relEndE_pur rfl ?_ (by repeat (first | exact bR | refine bO ?_ | refine bA ?_ | refine bS ?_ | refine bD ?_ | refine bN ?_)); simp only [Act.put, List.setIfInBounds_toArray, List.set_cons_succ, List.set_cons_zero]; rfl)) ?_; simp only [Act.put, List.setIfInBounds_toArray, List.set_cons_succ, List.set_cons_zero])
    (refine wpRelE_pur rfl rfl (fun x hh => by ((skip); (go_wp2); refine relEndE_pur rfl ?_ (by repeat (first | exact bR | refine bO ?_ | refine bA ?_ | refine bS ?_ | refine bD ?_ | refine bN ?_)); simp only [Act.put, List.setIfInBounds_toArray, List.set_cons_succ, List.set_cons_zero]; rfl)) ?_; simp only [Act.put, List.setIfInBounds_toArray, List.set_cons_succ, List.set_cons_zero])
    (refine wpRelE_pur rfl rfl (fun x hh => by ((skip); (go_wp2); refine relEndE_pur rfl ?_ (by repeat (first | exact bR | refine bO ?_ | refine bA ?_ | refine bS ?_ | refine bD ?_ | refine bN ?_)); simp only [Act.put, List.setIfInBounds_toArray, List.set_cons_succ, List.set_cons_zero]; rfl)) ?_; simp only [Act.put, List.setIfInBounds_toArray, List.set_cons_succ, List.set_cons_zero])
    (refine wpRelE_pur rfl rfl (fun x hh => by ((skip); (go_wp2); refine relEndE_pur rfl ?_ (by repeat (first | exact bR | refine bO ?_ | refine bA ?_ | refine bS ?_ | refine bD ?_ | refine bN ?_)); simp only [Act.put, List.setIfInBounds_toArray, List.set_cons_succ, List.set_cons_zero]; rfl)) ?_; simp only [Act.put, List.setIfInBounds_toArray, List.set_cons_succ, List.set_cons_zero])
    (refine wpRelE_pur rfl rfl (fun x hh => by ((skip); (go_wp2); refine relEndE_pur rfl ?_ (by repeat (first | exact bR | refine bO ?_ | refine bA ?_ | refine bS ?_ | refine bD ?_ | refine bN ?_)); simp only [Act.put, List.setIfInBounds_toArray, List.set_cons_succ, List.set_cons_zero]; rfl)) ?_; simp only [Act.put, List.setIfInBounds_toArray, List.set_cons_succ, List.set_cons_zero])
    (refine wpRelE_pur rfl rfl (fun x hh => by ((skip); (go_wp2); refine relEndE_pur rfl ?_ (by repeat (first | exact bR | refine bO ?_ | refine bA ?_ | refine bS ?_ | refine bD ?_ | refine bN ?_)); simp only [Act.put, List.setIfInBounds_toArray, List.set_cons_succ, List.set_cons_zero]; rfl)) ?_; simp only [Act.put, List.setIfInBounds_toArray, List.set_cons_succ, List.set_cons_zero])
    (refine wpRelE_pur rfl rfl (fun x hh => by ((skip); (go_wp2); refine relEndE_pur rfl ?_ (by repeat (first | exact bR | refine bO ?_ | refine bA ?_ | refine bS ?_ | refine bD ?_ | refine bN ?_)); simp only [Act.put, List.setIfInBounds_toArray, List.set_cons_succ, List.set_cons_zero]; rfl)) ?_; simp only [Act.put, List.setIfInBounds_toArray, List.set_cons_succ, List.set_cons_zero])
    (refine wpRelE_pur rfl rfl (fun x hh => by ((skip); (go_wp2); refine relEndE_pur rfl ?_ (by repeat (first | exact bR | refine bO ?_ | refine bA ?_ | refine bS ?_ | refine bD ?_ | refine bN ?_)); simp only [Act.put, List.setIfInBounds_toArray, List.set_cons_succ, List.set_cons_zero]; rfl)) ?_; simp only [Act.put, List.setIfInBounds_toArray, List.set_cons_succ, List.set_cons_zero])
    (refine wpRelE_pur rfl rfl (fun x hh => by ((skip); (go_wp2); refine relEndE_pur rfl ?_ (by repeat (first | exact bR | refine bO ?_ | refine bA ?_ | refine bS ?_ | refine bD ?_ | refine bN ?_)); simp only [Act.put, List.setIfInBounds_toArray, List.set_cons_succ, List.set_cons_zero]; rfl)) ?_; simp only [Act.put, List.setIfInBounds_toArray, List.set_cons_succ, List.set_cons_zero])
    (refine wpRelE_pur rfl rfl (fun x hh => by ((skip); (go_wp2); refine relEndE_pur rfl ?_ (by repeat (first | exact bR | refine bO ?_ | refine bA ?_ | refine bS ?_ | refine bD ?_ | refine bN ?_)); simp only [Act.put, List.setIfInBounds_toArray, List.set_cons_succ, List.set_cons_zero]; rfl)) ?_; simp only [Act.put, List.setIfInBounds_toArray, List.set_cons_succ, List.set_cons_zero])
    (refine wpRelE_pur rfl rfl (fun x hh => by ((skip); (go_wp2); refine relEndE_pur rfl ?_ (by repeat (first | exact bR | refine bO ?_ | refine bA ?_ | refine bS ?_ | refine bD ?_ | refine bN ?_)); simp only [Act.put, List.setIfInBounds_toArray, List.set_cons_succ, List.set_cons_zero]; rfl)) ?_; simp only [Act.put, List.setIfInBounds_toArray, List.set_cons_succ, List.set_cons_zero])
    (refine wpRelE_pur rfl rfl (fun x hh => by ((skip); (go_wp2); refine relEndE_pur rfl ?_ (by repeat (first | exact bR | refine bO ?_ | refine bA ?_ | refine bS ?_ | refine bD ?_ | refine bN ?_)); simp only [Act.put, List.setIfInBounds_toArray, List.set_cons_succ, List.set_cons_zero]; rfl)) ?_; simp only [Act.put, List.setIfInBounds_toArray, List.set_cons_succ, List.set_cons_zero])
    (refine wpRelE_pur rfl rfl (fun x hh => by ((skip); (go_wp2); refine relEndE_pur rfl ?_ (by repeat (first | exact bR | refine bO ?_ | refine bA ?_ | refine bS ?_ | refine bD ?_ | refine bN ?_)); simp only [Act.put, List.setIfInBounds_toArray, List.set_cons_succ, List.set_cons_zero]; rfl)) ?_; simp only [Act.put, List.setIfInBounds_toArray, List.set_cons_succ, List.set_cons_zero])
    (refine wpRelE_pur rfl rfl (fun x hh => by ((skip); (go_wp2); refine relEndE_pur rfl ?_ (by repeat (first | exact bR | refine bO ?_ | refine bA ?_ | refine bS ?_ | refine bD ?_ | refine bN ?_)); simp only [Act.put, List.setIfInBounds_toArray, List.set_cons_succ, List.set_cons_zero]; rfl)) ?_; simp only [Act.put, List.setIfInBounds_toArray, List.set_cons_succ, List.set_cons_zero])
    (refine wpRelE_pur rfl rfl (fun x hh => by ((skip); (go_wp2); refine relEndE_pur rfl ?_ (by repeat (first | exact bR | refine bO ?_ | refine bA ?_ | refine bS ?_ | refine bD ?_ | refine bN ?_)); simp only [Act.put, List.setIfInBounds_toArray, List.set_cons_succ, List.set_cons_zero]; rfl)) ?_; simp only [Act.put, List.setIfInBounds_toArray, List.set_cons_succ, List.set_cons_zero])
    (refine wpRelE_pur rfl rfl (fun x hh => by ((skip); (go_wp2); refine relEndE_pur rfl ?_ (by repeat (first | exact bR | refine bO ?_ | refine bA ?_ | refine bS ?_ | refine bD ?_ | refine bN ?_)); simp only [Act.put, List.setIfInBounds_toArray, List.set_cons_succ, List.set_cons_zero]; rfl)) ?_; simp only [Act.put, List.setIfInBounds_toArray, List.set_cons_succ, List.set_cons_zero])
    (refine wpRelE_pur rfl rfl (fun x hh => by ((skip); (go_wp2); refine relEndE_pur rfl ?_ (by repeat (first | exact bR | refine bO ?_ | refine bA ?_ | refine bS ?_ | refine bD ?_ | refine bN ?_)); simp only [Act.put, List.setIfInBounds_toArray, List.set_cons_succ, List.set_cons_zero]; rfl)) ?_; simp only [Act.put, List.setIfInBounds_toArray, List.set_cons_succ, List.set_cons_zero])
    (refine wpRelE_pur rfl rfl (fun x hh => by ((skip); (go_wp2); refine relEndE_pur rfl ?_ (by repeat (first | exact bR | refine bO ?_ | refine bA ?_ | refine bS ?_ | refine bD ?_ | refine bN ?_)); simp only [Act.put, List.setIfInBounds_toArray, List.set_cons_succ, List.set_cons_zero]; rfl)) ?_; simp only [Act.put, List.setIfInBounds_toArray, List.set_cons_succ, List.set_cons_zero])
    (refine wpRelE_pur rfl rfl (fun x hh => by ((skip); (go_wp2); refine relEndE_pur rfl ?_ (by repeat (first | exact bR | refine bO ?_ | refine bA ?_ | refine bS ?_ | refine bD ?_ | refine bN ?_)); simp only [Act.put, List.setIfInBounds_toArray, List.set_cons_succ, List.set_cons_zero]; rfl)) ?_; simp only [Act.put, List.setIfInBounds_toArray, List.set_cons_succ, List.set_cons_zero])
    (refine wpRelE_pur rfl rfl (fun x hh => by ((skip); (go_wp2); refine relEndE_pur rfl ?_ (by repeat (first | exact bR | refine bO ?_ | refine bA ?_ | refine bS ?_ | refine bD ?_ | refine bN ?_)); simp only [Act.put, List.setIfInBounds_toArray, List.set_cons_succ, List.set_cons_zero]; rfl)) ?_; simp only [Act.put, List.setIfInBounds_toArray, List.set_cons_succ, List.set_cons_zero])
    (refine wpRelE_pur rfl rfl (fun x hh => by ((skip); (go_wp2_with (first | (go_at_call 101; refine (calls_ov (impl_HalfOf_eq HM (by omega) (by omega) (by omega))).mono ?_; rintro e w' ⟨rfl, x, rfl⟩))); refine relEndE_pur rfl ?_ (by repeat (first | exact bR | refine bO ?_ | refine bA ?_ | refine bS ?_ | refine bD ?_ | refine bN ?_)); simp only [Act.put, List.setIfInBounds_toArray, List.set_cons_succ, List.set_cons_zero]; rfl)) ?_; simp only [Act.put, List.setIfInBounds_toArray, List.set_cons_succ, List.set_cons_zero])
    (refine wpRelE_pur rfl rfl (fun x hh => by ((skip); (go_wp2); refine relEndE_pur rfl ?_ (by repeat (first | exact bR | refine bO ?_ | refine bA ?_ | refine bS ?_ | refine bD ?_ | refine bN ?_)); simp only [Act.put, List.setIfInBounds_toArray, List.set_cons_succ, List.set_cons_zero]; rfl)) ?_; simp only [Act.put, List.setIfInBounds_toArray, List.set_cons_succ, List.set_cons_zero])
    (refine wpRelE_pur rfl rfl (fun x hh => by ((skip); (go_wp2); refine relEndE_pur rfl ?_ (by repeat (first | exact bR | refine bO ?_ | refine bA ?_ | refine bS ?_ | refine bD ?_ | refine bN ?_)); simp only [Act.put, List.setIfInBounds_toArray, List.set_cons_succ, List.set_cons_zero]; rfl)) ?_; simp only [Act.put, List.setIfInBounds_toArray, List.set_cons_succ, List.set_cons_zero])
    refine wpRelE_old rfl rfl rfl rfl (by decide) rfl (Nat.le_refl _) (vv_pur rfl) rfl (by kernel_rfl) (fun _ _ => ⟨rfl, by simp [Value.cells, Value.oneCell']⟩) (by repeat (first | exact all_nil | refine all_cons trivial ?_ | refine all_cons isAl_steady ?_ | refine all_cons (isOw_steady (by assumption)) ?_)) ?_
    (refine wpRelE_pur rfl rfl (fun x hh => by ((skip); (go_wp2); refine relEndE_pur rfl ?_ (by repeat (first | exact bR | refine bO ?_ | refine bA ?_ | refine bS ?_ | refine bD ?_ | refine bN ?_)); simp only [Act.put, List.setIfInBounds_toArray, List.set_cons_succ, List.set_cons_zero]; rfl)) ?_; simp only [Act.put, List.setIfInBounds_toArray, List.set_cons_succ, List.set_cons_zero])
    refine wpRelE_nil (fun wp hbp hEp hh => ?_)
    have hX := isStB_pur (hh 33 (by intro k hk; simp at hk)) rfl rfl
    have x4 := cell_blk (j := 0) (v := .int .i64 m.a) hX rfl
    have x5 := cell_blk (j := 1) (v := .int .i64 m.b) hX rfl
    have x6 := cell_blk (j := 2) (v := .int .i64 m.c) hX rfl
    have l4 := (Array.getElem?_eq_some_iff.1 hX).1
    have hbw : Below W.heap.size W wp := T0.trans (hbp.mono s1)
    clear hX hh hEp
    go_wp2
    refine bodyPost_ret (v := .tuple #[.agg #[.int .i64 m.a, .int .i64 m.b, .int .i64 m.c], .bool v]) (by simp [results, Tryz.results120, go_sem, x4, x5, x6, l4]) rfl ⟨rfl, hbw⟩
  case' hst => exact (by repeat (first | exact all_nil | refine all_cons trivial ?_ | refine all_cons isAl_stable ?_ | refine all_cons isSt_stable ?_ | refine all_cons isStB_stable ?_ | refine all_cons (isOw_stable (by assumption)) ?_))

set_option maxRecDepth 100000 in
set_option maxHeartbeats 4000000 in
theorem moved_pull {hs out : List H3} {ok : Bool} {A : Option Addr} {c : Nat} {w : World} {a b e f q : Int} {b4 b5 : Nat} {A4 : Option Addr} {C4 : Nat} (M : MatBd a b e f q) (RM : RI w A4 [a, b, e, f]) (c4 : w.cell? ⟨b4, 0, none⟩ = some (.slice A4 4 C4)) (c5 : w.cell? ⟨b5, 0, none⟩ = some (.int .i64 q)) (l4 : b4 < w.heap.size) (l5 : b5 < w.heap.size) (G : ∀ g ∈ hs, HOk g) (R : R3 44 w A c hs) (hl : 0 < hs.length ∧ hs.length ≤ 300) (hr : Hid (movedF (pullF a b e f q) hs = (out, ok))) :
    Calls Tryz.prog 99 #[.agg #[.slice A hs.length c], .func (.func 120) #[] #[.pointer (some ⟨b4, 0, none⟩), .pointer (some ⟨b5, 0, none⟩)]] w (RegPost w out ok) := by
  obtain ⟨i0, hi, hz0, hz1, hz2⟩ := info_parts info_half
  have hl0 := hl.1
  have hl1 := hl.2
  have hne : hs ≠ [] := List.length_pos_iff.1 hl.1
  obtain ⟨FX, hFX⟩ : ∃ FX, FX = (pullF a b e f q) := ⟨_, rfl⟩
  rw [← hFX] at hr
  obtain ⟨ms, hms⟩ : ∃ ms, hs.map (fun g => (FX g).1) = ms := ⟨_, rfl⟩
  have hml : ms.length = hs.length := by rw [← hms]; simp
  have hmk : ∀ k (h : k < hs.length), ms[k]? = some (FX hs[k]).1 := fun k h => by rw [← hms, List.getElem?_map, List.getElem?_eq_getElem h]; rfl
  have HR := hr.out
  unfold movedF at HR
  rw [if_neg hne, hms] at HR
  have HM := Lib.hid HR
  have HML := Lib.hid hml
  have HMK := Lib.hid hmk
  have HMS := Lib.hid hms
  have HF := Lib.hid hFX
  have HV : Hid (decide (hs.length = 0) = false) := Lib.hid (decide_eq_false (by omega))
  clear hr HR hms hml hmk hne hFX
  go_enter Tryz.func99, Tryz.ntmps99
  go_wp2_with ((go_at_call 20; (first | (with_reducible refine (calls_ov2 (IsVoid_eq HV)).mono ?_) | refine (calls_ov (IsVoid_eq HV)).mono ?_); rintro e w' ⟨rfl, x, rfl⟩))
  obtain ⟨W0, hW⟩ : ∃ W0, W0 = ov ((w.alloc (.cells #[.slice A hs.length c] 26)).alloc (.cells #[.slice none 0 0] 26)) x := ⟨_, rfl⟩
  rw [← hW]
  have T0 : Below w.heap.size w W0 := by rw [hW]; exact (by repeat (first | exact bR | refine bO ?_ | refine bA ?_ | refine bS ?_ | refine bD ?_ | refine bN ?_))
  have X2 := Lib.hid (show W0.heap[w.heap.size + 1]? = some (.cells #[.slice none 0 0] 26 (0, 0)) by rw [hW]; exact ov_blk (heap_new_at (by simp) rfl))
  clear hW
  have t0 := T0.size
  have hb2 : w.heap.size ≤ w.heap.size + 1 := by omega
  generalize w.heap.size + 1 = b2 at X2 hb2 ⊢
  have RW := R.below T0
  go_loopw [6, 17] (fun o i wr => ∃ (k : Nat) (A' : Option Addr) (c' : Nat), k ≤ hs.length ∧ i = .int .i64 k ∧ o = .slice A' k c' ∧ Hid ((hs.take k).all (fun g => (FX g).2) = true) ∧ RB W0.heap.size 44 wr A' c' (ms.take k) ∧ Below W0.heap.size W0 wr) (fun _ i _ => hs.length - (intOf i).toNat)
  case atStart => exact ⟨0, none, 0, Nat.zero_le _, rfl, rfl, Lib.hid rfl, RB.nil _ _ _, Below.refl _ _⟩
  case round =>
    obtain ⟨k, A', c', hk, rfl, rfl, HA, RO, hb⟩ := hrel
    have hbs := hb.size
    have htl : (ms.take k).length = k := by have := HML.out; simp; omega
    have T1 := T0.trans (hb.mono t0)
    have X3 := box_below X2 hb
    have hX2 := (Array.getElem?_eq_some_iff.1 X3.out).1
    by_cases hlt : k < hs.length
    · obtain ⟨g0, rfl, hg0, z0, z1, z2⟩ := (RW.below hb).at_ hlt
      have kg := G _ (List.getElem_mem hlt)
      have HE := Lib.hid (HMK.out k hlt)
      have HT := Lib.hid (all_take_succ (fun g => (FX g).2) hs k hlt)
      obtain ⟨⟨m, v⟩, hmb⟩ : ∃ m, FX hs[k] = m := ⟨_, rfl⟩
      have hmb' := hmb
      rw [HF.out] at hmb'
      have HS : ∀ W, Below wr.heap.size wr W → _ := fun W hW => pull_step (W := W) kg (Lib.hid hmb') M (RM.below (T1.trans (hW.mono T1.size))) ((hW.cell (p := ⟨b4, 0, none⟩) (by have := T1.size; show b4 < wr.heap.size; omega)).trans ((T1.cell (p := ⟨b4, 0, none⟩) l4).trans c4)) ((hW.cell (p := ⟨b5, 0, none⟩) (by have := T1.size; show b5 < wr.heap.size; omega)).trans ((T1.cell (p := ⟨b5, 0, none⟩) l5).trans c5)) (by have := T1.size; have := hW.size; omega) (by have := T1.size; have := hW.size; omega)
      have HN := Lib.hid (show ms.take (k + 1) = ms.take k ++ [m] by
        obtain ⟨h1, h2⟩ := List.getElem?_eq_some_iff.1 HE.out
        rw [List.take_succ_eq_append_getElem h1, h2, hmb])
      have HB := Lib.hid (show (FX hs[k]).2 = v by rw [hmb])
      clear hmb hmb' HE
      have OV : wr.ownsRow W0.heap.size 44 3 (.slice A' k c') k (cells3 (ms.take k)) := by unfold RB at RO; rw [htl] at RO; exact RO
      cases v with
      | true =>
        go_wp2_with (first | (go_at_call 120; (first | (with_reducible refine (calls_ov2 (HS _ (by repeat (first | exact bR | refine bO ?_ | refine bA ?_ | refine bS ?_ | refine bD ?_ | refine bN ?_)))).mono ?_) | refine (calls_ov (HS _ (by repeat (first | exact bR | refine bO ?_ | refine bA ?_ | refine bS ?_ | refine bD ?_ | refine bN ?_)))).mono ?_); rintro e w' ⟨rfl, x, rfl⟩) | (at_builtin; refine wpList_append_own _ rfl _ _ 24 rfl W0.heap.size 44 i0 (.agg #[.int .i64 0, .int .i64 0, .int .i64 0]) 3 24 Tryz.underlying24 hi hz0 hz1 hz2 rfl (by decide) _ _ _ rfl (OV.below' (by repeat (first | exact bR | refine bO ?_ | refine bA ?_ | refine bS ?_ | refine bD ?_ | refine bN ?_))) ⟨_, 0, none⟩ 1 1 (cells3 [m]) rfl rfl (news_at (heap_new_at (by simp) rfl)) (cells3_one _) (by unfold maxLen; omega) (by omega) (by simp [ov_size]; omega) ?_; intro v2 w2 O2 hg2 _; obtain ⟨A5, c5, rfl, RO5⟩ := own_slice2 HN.out htl O2; have HG := Lib.hid hg2; clear hg2 O2))
        go_roundw
        case rel => exact ⟨k + 1, A5, c5, by omega, by go_num, by go_num, Lib.hid (by rw [HT.out, HA.out, HB.out]; rfl), RO5, grown_below (B := W0.heap.size) (by repeat (first | exact hb | refine bO ?_ | refine bA ?_ | refine bS ?_ | refine bD ?_ | refine bN ?_)) HG.out (fun k' hk' => (OV.lt k' hk').1) (Nat.le_refl _)⟩
        case measure => simp [intOf] <;> omega
      | false =>
        have hr0 := HM.out
        have hall : hs.all (fun g => (FX g).2) = false := by
          rw [List.all_eq_false]
          exact ⟨hs[k], List.getElem_mem hlt, by rw [HB.out]; simp⟩
        rw [if_neg (by rw [hall]; simp)] at hr0
        simp at hr0
        obtain ⟨rfl, rfl⟩ := hr0
        clear hall
        have x2 := cell_blk (j := 0) (v := .slice none 0 0) X3.out rfl
        have f2 := frozen_blk (j := 0) X3.out
        go_wp2_with (first | (go_at_call 120; (first | (with_reducible refine (calls_ov2 (HS _ (by repeat (first | exact bR | refine bO ?_ | refine bA ?_ | refine bS ?_ | refine bD ?_ | refine bN ?_)))).mono ?_) | refine (calls_ov (HS _ (by repeat (first | exact bR | refine bO ?_ | refine bA ?_ | refine bS ?_ | refine bD ?_ | refine bN ?_)))).mono ?_); rintro e w' ⟨rfl, x, rfl⟩))
        refine bodyPost_ret (v := .tuple #[.agg #[.slice none 0 0], .bool false]) (by simp [results, Tryz.results99, go_sem, x2, hX2]) rfl ⟨none, 0, rfl, RB.nil _ _ _, ?_⟩
        exact (by repeat (first | exact T1 | refine bO ?_ | refine bA ?_ | refine bS ?_ | refine bD ?_ | refine bN ?_))
    · obtain rfl : k = hs.length := by omega
      have hfull : ms.take hs.length = ms := by rw [← HML.out, List.take_length]
      rw [hfull] at RO
      have hall := HA.out
      rw [List.take_length] at hall
      have HL := HML.out
      have hr0 := HM.out
      rw [if_pos hall] at hr0
      have HM2 := Lib.hid hr0
      have GM : ∀ g ∈ ms, HOk g := fun g hg => by
        rw [← HMS.out] at hg
        obtain ⟨y, hy, rfl⟩ := List.mem_map.1 hg
        have h2 := List.all_eq_true.1 hall y hy
        rw [HF.out] at h2 ⊢
        exact halfOf_ok rfl h2
      clear hr0 hall
      go_wp2_with fail
      refine (meetAll_eqn (n := hs.length) HL GM RO.r3 (by omega) HM2).mono ?_
      rintro e w2 ⟨A2', c2', rfl, R2', hb2'⟩
      have T2 : Below w.heap.size w w2 := T1.trans (hb2'.mono T1.size)
      have X4 := box_below X3 hb2'
      have HR1 := R2'.weak (B' := w.heap.size) T1.size
      clear X3 X2 hb2' R2' RO hX2
      have x2 := cell_blk (j := 0) (v := .slice none 0 0) X4.out rfl
      have f2 := frozen_blk (j := 0) X4.out
      have l2 := (Array.getElem?_eq_some_iff.1 X4.out).1
      go_wp2
      refine bodyPost_ret (v := .tuple #[.agg #[.slice A2' out.length c2'], .bool ok]) (by simp [results, Tryz.results99, go_sem, x2, l2]) rfl ⟨A2', c2', rfl, HR1.set_box X4.out (by decide), T2.setCell (show w.heap.size ≤ b2 from hb2) _⟩
end Go.Proofs.YtabmfaamadbefaaGreat