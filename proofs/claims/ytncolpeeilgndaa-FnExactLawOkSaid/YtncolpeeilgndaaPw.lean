/- Rows of pieces in the law on LawOk: the argument opened, the copy, the comparison; arePieces and LawOk of both sides. Condition: at most 2^20 pieces where said. -/
import Derived.Test.YtncolpeeilgndaaMi
import Derived.Test.YtncolpeeilgndaaPc
set_option linter.unusedSimpArgs false
set_option linter.unusedVariables false
set_option linter.unusedSectionVars false
namespace Go.Proofs.Ytncolpeeilgndaa
open Go.ChangeShapes Go.WideShapes Go.ChangeAt Go.RowKit Go.Joins Go.Deep

structure Q4 where
  a : Int
  b : Int
  c : Int
  d : Int
structure QBd (x : Q4) : Prop where
  ba : -9223372036854775808 ≤ x.a ∧ x.a ≤ 9223372036854775807
  bb : -9223372036854775808 ≤ x.b ∧ x.b ≤ 9223372036854775807
  bc : -9223372036854775808 ≤ x.c ∧ x.c ≤ 9223372036854775807
  bd : -9223372036854775808 ≤ x.d ∧ x.d ≤ 9223372036854775807
/-- A row of pieces: any address. -/
def RP (w : World) (A : Option Addr) (xs : List Q4) : Prop := ∀ k (hk : k < xs.length), ∃ g o, A = some ⟨g, o, none⟩ ∧ g < w.heap.size ∧
  w.cell? ⟨g, o + k * 4, none⟩ = some (.int .i64 xs[k].a) ∧ w.cell? ⟨g, o + k * 4 + 1, none⟩ = some (.int .i64 xs[k].b) ∧ w.cell? ⟨g, o + k * 4 + 2, none⟩ = some (.int .i64 xs[k].c) ∧ w.cell? ⟨g, o + k * 4 + 3, none⟩ = some (.int .i64 xs[k].d)
theorem RP.below {w w' : World} {A : Option Addr} {xs : List Q4} (h : RP w A xs) (hb : Below w.heap.size w w') : RP w' A xs := fun k hk => by
  obtain ⟨g, o, h1, h2, h3, h4, h5, h6⟩ := h k hk
  have := hb.size
  exact ⟨g, o, h1, by omega, (hb.cell (p := ⟨g, o + k * 4, none⟩) h2).trans h3, (hb.cell (p := ⟨g, o + k * 4 + 1, none⟩) h2).trans h4, (hb.cell (p := ⟨g, o + k * 4 + 2, none⟩) h2).trans h5, (hb.cell (p := ⟨g, o + k * 4 + 3, none⟩) h2).trans h6⟩
section
variable {H : Type} {enc : TypeId × Value → H} {w : World} {base : Nat} {spare : Nat → Bool} {held : Bool} {n : Nat}
theorem cells_piece : Try.prog.cellsOf 23 = 4 := by kernel_rfl
theorem piece_of_trod {cs : List Value} {y : DataW H × List MemPlace} (hl : cs.length = 4) (h : DataW.trod enc Try.prog w base spare held n 23 cs = some y) :
    ∃ g : Q4, cs = [.int .i64 g.a, .int .i64 g.b, .int .i64 g.c, .int .i64 g.d] ∧ QBd g := by
  match cs, hl with
  | [c0, c1, c2, c3], _ =>
    obtain ⟨ys, n', _, _, _, hyl, hf⟩ := DataW.trod_struct Try.underlying23 h
    have f0 : DataW.trod enc Try.prog w base spare held n' 3 [c0] = ys[0]? := by simpa [cells_int] using hf 0 _ rfl
    have f1 : DataW.trod enc Try.prog w base spare held n' 3 [c1] = ys[1]? := by simpa [cells_int] using hf 1 _ rfl
    have f2 : DataW.trod enc Try.prog w base spare held n' 3 [c2] = ys[2]? := by simpa [cells_int] using hf 2 _ rfl
    have f3 : DataW.trod enc Try.prog w base spare held n' 3 [c3] = ys[3]? := by simpa [cells_int] using hf 3 _ rfl
    have hy4 : ys.length = 4 := hyl
    obtain ⟨y0, hy0⟩ : ∃ y0, ys[0]? = some y0 := ⟨_, List.getElem?_eq_getElem (by omega)⟩
    obtain ⟨y1, hy1⟩ : ∃ y0, ys[1]? = some y0 := ⟨_, List.getElem?_eq_getElem (by omega)⟩
    obtain ⟨y2, hy2⟩ : ∃ y0, ys[2]? = some y0 := ⟨_, List.getElem?_eq_getElem (by omega)⟩
    obtain ⟨y3, hy3⟩ : ∃ y0, ys[3]? = some y0 := ⟨_, List.getElem?_eq_getElem (by omega)⟩
    rw [hy0] at f0
    rw [hy1] at f1
    rw [hy2] at f2
    rw [hy3] at f3
    obtain ⟨a, rfl, ba⟩ := int_of_trod f0
    obtain ⟨b, rfl, bb⟩ := int_of_trod f1
    obtain ⟨c, rfl, bc⟩ := int_of_trod f2
    obtain ⟨d, rfl, bd⟩ := int_of_trod f3
    exact ⟨⟨a, b, c, d⟩, rfl, ba, bb, bc, bd⟩
theorem pieces_of_trod {cs : List Value} {y : DataW H × List MemPlace} (h : DataW.trod enc Try.prog w base spare held n 28 cs = some y) : ∃ (A : Option Addr) (c : Nat) (xs : List Q4), cs = [.slice A xs.length c] ∧ RP w A xs ∧ xs.length ≤ c ∧ c ≤ maxLen ∧ ∀ x ∈ xs, QBd x := by
  rcases open_slice Try.underlying28 h with ⟨rfl, _⟩ | ⟨a, len, cap, m, n', D, Pl, rfl, hb, hl, hm, hmm, _, hi⟩
  · exact ⟨none, 0, [], rfl, fun k hk => by simp at hk, Nat.le_refl _, by unfold maxLen; omega, fun x hx => by cases hx⟩
  · have hlm : len ≤ m := by rw [hmm]; split <;> omega
    have cell0 : ∀ i, i < len → ∃ x : Q4, (w.cell? (a.add (i * 4)) = some (.int .i64 x.a) ∧ w.cell? (a.add (i * 4 + 1)) = some (.int .i64 x.b) ∧ w.cell? (a.add (i * 4 + 2)) = some (.int .i64 x.c) ∧ w.cell? (a.add (i * 4 + 3)) = some (.int .i64 x.d)) ∧ QBd x := by
      intro i hi'
      obtain ⟨cs', hc, ht⟩ := hi i (by omega)
      rw [cells_piece] at hc
      obtain ⟨_, hcl, hat⟩ := World.cells?_some hc
      obtain ⟨g, rfl, hg⟩ := piece_of_trod hcl ht
      have c0 := hat 0 (by omega)
      have c1 := hat 1 (by omega)
      have c2 := hat 2 (by omega)
      have c3 := hat 3 (by omega)
      rw [Go.Deep.add_add] at c0 c1 c2 c3
      exact ⟨g, ⟨c0, c1, c2, c3⟩, hg⟩
    have hall : ∀ i, i < len → ∃ x : Q4, (∃ g o, (some a : Option Addr) = some ⟨g, o, none⟩ ∧ g < w.heap.size ∧ w.cell? ⟨g, o + i * 4, none⟩ = some (.int .i64 x.a) ∧ w.cell? ⟨g, o + i * 4 + 1, none⟩ = some (.int .i64 x.b) ∧ w.cell? ⟨g, o + i * 4 + 2, none⟩ = some (.int .i64 x.c) ∧ w.cell? ⟨g, o + i * 4 + 3, none⟩ = some (.int .i64 x.d)) ∧ QBd x := by
      intro i hi'
      obtain ⟨x0, ⟨h0, _⟩, _⟩ := cell0 0 (by omega)
      obtain ⟨x, ⟨c0, c1, c2, c3⟩, hx⟩ := cell0 i hi'
      rw [show a.add (0 * 4) = a by simp [Addr.add]] at h0
      obtain ⟨sp, hbk⟩ := cell?_addr h0
      obtain ⟨g, o, sp'⟩ := a
      simp only at sp hbk
      subst sp
      rw [Addr.add_lit] at c0 c1 c2 c3
      exact ⟨x, ⟨g, o, rfl, hbk, c0, c1, c2, c3⟩, hx⟩
    obtain ⟨xs, hxl, hx⟩ := list_of len hall
    subst hxl
    refine ⟨some a, cap, xs, rfl, fun k hk => (hx k hk).1, hl, hm, fun x hxm => ?_⟩
    obtain ⟨i, hi', rfl⟩ := List.mem_iff_getElem.1 hxm
    exact (hx i hi').2
set_option maxRecDepth 100000 in
theorem open_law {v : Value} {d : DataW H} {p : List MemPlace} {r : Reach} {b0 : Nat} (hv : Value.okWide Try.prog w r b0 30 v) (h : DataW.Trod enc Try.prog w base spare held 30 v d p) :
    ∃ (A A2 : Option Addr) (c c2 : Nat) (xs ys : List Q4), v = .agg #[.slice A xs.length c, .slice A2 ys.length c2] ∧ RP w A xs ∧ RP w A2 ys ∧ xs.length ≤ 9223372036854775807 ∧ ys.length ≤ 9223372036854775807 ∧ (∀ x ∈ xs, QBd x) ∧ ∀ x ∈ ys, QBd x := by
  obtain ⟨⟨l⟩, rfl, hsz⟩ := okWide_struct Try.underlying30 hv
  rw [show Try.prog.cellsOf 30 = 2 by kernel_rfl] at hsz
  match l, hsz with
  | [c0, c1], _ =>
    obtain ⟨fuel, hf⟩ := h
    obtain ⟨zs, n', _, _, _, hyl, hg⟩ := DataW.trod_struct Try.underlying30 hf
    have hz2 : zs.length = 2 := hyl
    have f0 : DataW.trod enc Try.prog w base spare held n' 28 [c0] = zs[0]? := by simpa [show Try.prog.cellsOf 28 = 1 by kernel_rfl, Value.cells] using hg 0 _ rfl
    have f1 : DataW.trod enc Try.prog w base spare held n' 28 [c1] = zs[1]? := by simpa [show Try.prog.cellsOf 28 = 1 by kernel_rfl, Value.cells] using hg 1 _ rfl
    obtain ⟨y0, hy0⟩ : ∃ y0, zs[0]? = some y0 := ⟨_, List.getElem?_eq_getElem (by omega)⟩
    obtain ⟨y1, hy1⟩ : ∃ y0, zs[1]? = some y0 := ⟨_, List.getElem?_eq_getElem (by omega)⟩
    rw [hy0] at f0
    rw [hy1] at f1
    obtain ⟨A, c, xs, e, h1, h2, h3, h4⟩ := pieces_of_trod f0
    obtain ⟨A2, c2, ys, e2, k1, k2, k3, k4⟩ := pieces_of_trod f1
    injection e with e
    injection e2 with e2
    subst e e2
    exact ⟨A, A2, c, c2, xs, ys, rfl, h1, k1, by unfold maxLen at h3; omega, by unfold maxLen at k3; omega, h4, k4⟩
end

def okQ (x : Q4) : Bool := pieceOk x.a x.b x.c x.d
def okQs (xs : List Q4) : Bool := xs.all okQ && inR xs.length 1 40
theorem all_take_succ4 {α : Type} (p : α → Bool) (l : List α) (k : Nat) (hk : k < l.length) : (l.take (k + 1)).all p = ((l.take k).all p && p l[k]) := by
  rw [List.take_succ_eq_append_getElem hk, List.all_append]; simp
theorem impl_PieceOk_eq {x : Q4} {v : Bool} {w : World} (h : Hid (okQ x = v)) (b : QBd x) : Calls Try.prog 11 #[.agg #[.int .i64 x.a, .int .i64 x.b, .int .i64 x.c, .int .i64 x.d]] w fun e w' => e = .returned (.bool v) ∧ Below w.heap.size w w' := by
  rw [← h.out]; exact impl_PieceOk_any _ _ _ _ w b.ba b.bb b.bc b.bd
theorem spec_PieceOk_eq {x : Q4} {v : Bool} {w : World} (h : Hid (okQ x = v)) (b : QBd x) : Calls Try.prog 9 #[.agg #[.int .i64 x.a, .int .i64 x.b, .int .i64 x.c, .int .i64 x.d]] w fun e w' => e = .returned (.bool v) ∧ Below w.heap.size w w' := by
  rw [← h.out]; exact spec_PieceOk_any _ _ _ _ w b.ba b.bb b.bc b.bd

set_option maxHeartbeats 2000000 in
theorem arePieces_eq {xs : List Q4} {A : Option Addr} {c : Nat} {w : World} {v : Bool} (R : RP w A xs) (B : ∀ x ∈ xs, QBd x) (hl : xs.length ≤ 1000000000) (h : Hid (okQs xs = v)) :
    Calls Try.prog 42 #[.slice A xs.length c] w fun e w' => e = .returned (.bool v) ∧ Below w.heap.size w w' := by
  go_enter Try.func42, Try.ntmps42
  go_wp2
  go_loopw [7] (fun i wr => ∃ k : Nat, k ≤ xs.length ∧ i = .int .i64 k ∧ Hid ((xs.take k).all okQ = true) ∧ Below w.heap.size w wr) (fun i _ => xs.length - (intOf i).toNat)
  case atStart => exact ⟨0, Nat.zero_le _, rfl, Lib.hid rfl, Below.refl _ _⟩
  case round =>
    obtain ⟨k, hk, rfl, HA, hb⟩ := hrel
    have hbs := hb.size
    by_cases hlt : k < xs.length
    · obtain ⟨g, o, rfl, hg, z0, z1, z2, z3⟩ := (R.below hb) k hlt
      have HT := Lib.hid (all_take_succ4 okQ xs k hlt)
      have bk := B _ (List.getElem_mem hlt)
      clear R
      obtain ⟨b, hb0⟩ : ∃ b, okQ xs[k] = b := ⟨_, rfl⟩
      have HB := Lib.hid hb0
      clear hb0
      cases b with
      | true =>
        go_wp2_with ((go_at_call 11; (first | (with_reducible refine (calls_ov2 (impl_PieceOk_eq HB bk)).mono ?_) | refine (calls_ov (impl_PieceOk_eq HB bk)).mono ?_); rintro e w' ⟨rfl, x, rfl⟩))
        go_roundw
        case rel => exact ⟨k + 1, by omega, by go_num, Lib.hid (by rw [HT.out, HA.out, HB.out]; rfl), (by repeat (first | exact hb | refine below_ov _ _ ?_ (by first | omega | (simp [ov_size] <;> omega)) | refine Below.alloc ?_ (by first | omega | (simp [ov_size] <;> omega)) _ | refine Below.setCell ?_ (by first | omega | (simp [ov_size] <;> omega)) _ | refine Below.drew ?_ | refine below_drewN ?_ _))⟩
        case measure => simp [intOf] <;> omega
      | false =>
        obtain rfl : v = false := by
          rw [← h.out]
          unfold okQs
          rw [List.all_eq_false.2 ⟨xs[k], List.getElem_mem hlt, by rw [HB.out]; simp⟩]; rfl
        go_wp2_with ((go_at_call 11; (first | (with_reducible refine (calls_ov2 (impl_PieceOk_eq HB bk)).mono ?_) | refine (calls_ov (impl_PieceOk_eq HB bk)).mono ?_); rintro e w' ⟨rfl, x, rfl⟩))
        go_ret
        exact ⟨rfl, (by repeat (first | exact hb | refine below_ov _ _ ?_ (by first | omega | (simp [ov_size] <;> omega)) | refine Below.alloc ?_ (by first | omega | (simp [ov_size] <;> omega)) _ | refine Below.setCell ?_ (by first | omega | (simp [ov_size] <;> omega)) _ | refine Below.drew ?_ | refine below_drewN ?_ _))⟩
    · obtain rfl : k = xs.length := by omega
      have hv : inR xs.length 1 40 = v := by
        rw [← h.out]
        unfold okQs
        have := HA.out
        rw [List.take_length] at this
        rw [this]; rfl
      go_wp2_with ((go_at_call 36; refine (inRange_eq hv).mono ?_; rintro e w' ⟨rfl, rfl⟩))
      go_ret
      exact ⟨rfl, (by repeat (first | exact hb | refine below_ov _ _ ?_ (by first | omega | (simp [ov_size] <;> omega)) | refine Below.alloc ?_ (by first | omega | (simp [ov_size] <;> omega)) _ | refine Below.setCell ?_ (by first | omega | (simp [ov_size] <;> omega)) _ | refine Below.drew ?_ | refine below_drewN ?_ _))⟩

set_option maxHeartbeats 2000000 in
theorem l12All_eq {xs : List Q4} {A : Option Addr} {c : Nat} {w : World} {v : Bool} (R : RP w A xs) (B : ∀ x ∈ xs, QBd x) (hl : xs.length ≤ 1000000000) (h : Hid (okQs xs = v)) :
    Calls Try.prog 40 #[.slice A xs.length c] w fun e w' => e = .returned (.bool v) ∧ Below w.heap.size w w' := by
  go_enter Try.func40, Try.ntmps40
  go_wp2
  go_loopw [7] (fun i wr => ∃ k : Nat, k ≤ xs.length ∧ i = .int .i64 k ∧ Hid ((xs.take k).all okQ = true) ∧ Below w.heap.size w wr) (fun i _ => xs.length - (intOf i).toNat)
  case atStart => exact ⟨0, Nat.zero_le _, rfl, Lib.hid rfl, Below.refl _ _⟩
  case round =>
    obtain ⟨k, hk, rfl, HA, hb⟩ := hrel
    have hbs := hb.size
    by_cases hlt : k < xs.length
    · obtain ⟨g, o, rfl, hg, z0, z1, z2, z3⟩ := (R.below hb) k hlt
      have HT := Lib.hid (all_take_succ4 okQ xs k hlt)
      have bk := B _ (List.getElem_mem hlt)
      clear R
      obtain ⟨b, hb0⟩ : ∃ b, okQ xs[k] = b := ⟨_, rfl⟩
      have HB := Lib.hid hb0
      clear hb0
      cases b with
      | true =>
        go_wp2_with ((go_at_call 9; (first | (with_reducible refine (calls_ov2 (spec_PieceOk_eq HB bk)).mono ?_) | refine (calls_ov (spec_PieceOk_eq HB bk)).mono ?_); rintro e w' ⟨rfl, x, rfl⟩))
        go_roundw
        case rel => exact ⟨k + 1, by omega, by go_num, Lib.hid (by rw [HT.out, HA.out, HB.out]; rfl), (by repeat (first | exact hb | refine below_ov _ _ ?_ (by first | omega | (simp [ov_size] <;> omega)) | refine Below.alloc ?_ (by first | omega | (simp [ov_size] <;> omega)) _ | refine Below.setCell ?_ (by first | omega | (simp [ov_size] <;> omega)) _ | refine Below.drew ?_ | refine below_drewN ?_ _))⟩
        case measure => simp [intOf] <;> omega
      | false =>
        obtain rfl : v = false := by
          rw [← h.out]
          unfold okQs
          rw [List.all_eq_false.2 ⟨xs[k], List.getElem_mem hlt, by rw [HB.out]; simp⟩]; rfl
        go_wp2_with ((go_at_call 9; (first | (with_reducible refine (calls_ov2 (spec_PieceOk_eq HB bk)).mono ?_) | refine (calls_ov (spec_PieceOk_eq HB bk)).mono ?_); rintro e w' ⟨rfl, x, rfl⟩))
        go_ret
        exact ⟨rfl, (by repeat (first | exact hb | refine below_ov _ _ ?_ (by first | omega | (simp [ov_size] <;> omega)) | refine Below.alloc ?_ (by first | omega | (simp [ov_size] <;> omega)) _ | refine Below.setCell ?_ (by first | omega | (simp [ov_size] <;> omega)) _ | refine Below.drew ?_ | refine below_drewN ?_ _))⟩
    · obtain rfl : k = xs.length := by omega
      have hv : inR xs.length 1 40 = v := by
        rw [← h.out]
        unfold okQs
        have := HA.out
        rw [List.take_length] at this
        rw [this]; rfl
      go_wp2_with ((go_at_call 34; refine (l01In_eq hv).mono ?_; rintro e w' ⟨rfl, rfl⟩))
      go_ret
      exact ⟨rfl, (by repeat (first | exact hb | refine below_ov _ _ ?_ (by first | omega | (simp [ov_size] <;> omega)) | refine Below.alloc ?_ (by first | omega | (simp [ov_size] <;> omega)) _ | refine Below.setCell ?_ (by first | omega | (simp [ov_size] <;> omega)) _ | refine Below.drew ?_ | refine below_drewN ?_ _))⟩

theorem impl_LawOk_eq {xs ys : List Q4} {A A2 : Option Addr} {c c2 : Nat} {w : World} {v : Bool} (R : RP w A xs) (R2 : RP w A2 ys) (B : ∀ x ∈ xs, QBd x) (B2 : ∀ x ∈ ys, QBd x) (hl : xs.length ≤ 1000000000) (hl2 : ys.length ≤ 1000000000) (h : Hid ((okQs xs && okQs ys) = v)) :
    Calls Try.prog 15 #[.agg #[.slice A xs.length c, .slice A2 ys.length c2]] w fun e w' => e = .returned (.bool v) ∧ Below w.heap.size w w' := by
  have h' := h.out
  clear h
  obtain ⟨b1, h1⟩ : ∃ b, okQs xs = b := ⟨_, rfl⟩
  obtain ⟨b2, h2⟩ : ∃ b, okQs ys = b := ⟨_, rfl⟩
  rw [h1, h2] at h'
  have H1 := Lib.hid h1
  have H2 := Lib.hid h2
  clear h1 h2
  cases b1 with
  | false =>
    obtain rfl : v = false := by rw [← h']; rfl
    clear h'
    go_enter Try.func15, Try.ntmps15
    go_wp2_with ((go_at_call 42; (first | (with_reducible refine (calls_ov2 (arePieces_eq (by exact R.below (by repeat (first | exact Below.refl _ _ | refine below_ov _ _ ?_ (by first | omega | (simp [ov_size] <;> omega)) | refine Below.alloc ?_ (by first | omega | (simp [ov_size] <;> omega)) _ | refine Below.setCell ?_ (by first | omega | (simp [ov_size] <;> omega)) _ | refine Below.drew ?_ | refine below_drewN ?_ _))) B hl H1)).mono ?_) | refine (calls_ov (arePieces_eq (by exact R.below (by repeat (first | exact Below.refl _ _ | refine below_ov _ _ ?_ (by first | omega | (simp [ov_size] <;> omega)) | refine Below.alloc ?_ (by first | omega | (simp [ov_size] <;> omega)) _ | refine Below.setCell ?_ (by first | omega | (simp [ov_size] <;> omega)) _ | refine Below.drew ?_ | refine below_drewN ?_ _))) B hl H1)).mono ?_); rintro e w' ⟨rfl, x, rfl⟩))
    go_ret
    exact ⟨rfl, (by repeat (first | exact Below.refl _ _ | refine below_ov _ _ ?_ (by first | omega | (simp [ov_size] <;> omega)) | refine Below.alloc ?_ (by first | omega | (simp [ov_size] <;> omega)) _ | refine Below.setCell ?_ (by first | omega | (simp [ov_size] <;> omega)) _ | refine Below.drew ?_ | refine below_drewN ?_ _))⟩
  | true =>
    obtain rfl : v = b2 := by rw [← h']; rfl
    clear h'
    go_enter Try.func15, Try.ntmps15
    go_wp2_with (first | (go_at_call 42; (first | (with_reducible refine (calls_ov2 (arePieces_eq (by first | exact R.below (by repeat (first | exact Below.refl _ _ | refine below_ov _ _ ?_ (by first | omega | (simp [ov_size] <;> omega)) | refine Below.alloc ?_ (by first | omega | (simp [ov_size] <;> omega)) _ | refine Below.setCell ?_ (by first | omega | (simp [ov_size] <;> omega)) _ | refine Below.drew ?_ | refine below_drewN ?_ _)) | exact R2.below (by repeat (first | exact Below.refl _ _ | refine below_ov _ _ ?_ (by first | omega | (simp [ov_size] <;> omega)) | refine Below.alloc ?_ (by first | omega | (simp [ov_size] <;> omega)) _ | refine Below.setCell ?_ (by first | omega | (simp [ov_size] <;> omega)) _ | refine Below.drew ?_ | refine below_drewN ?_ _))) (by first | exact B | exact B2) (by first | exact hl | exact hl2) (by first | exact H1 | exact H2))).mono ?_) | refine (calls_ov (arePieces_eq (by first | exact R.below (by repeat (first | exact Below.refl _ _ | refine below_ov _ _ ?_ (by first | omega | (simp [ov_size] <;> omega)) | refine Below.alloc ?_ (by first | omega | (simp [ov_size] <;> omega)) _ | refine Below.setCell ?_ (by first | omega | (simp [ov_size] <;> omega)) _ | refine Below.drew ?_ | refine below_drewN ?_ _)) | exact R2.below (by repeat (first | exact Below.refl _ _ | refine below_ov _ _ ?_ (by first | omega | (simp [ov_size] <;> omega)) | refine Below.alloc ?_ (by first | omega | (simp [ov_size] <;> omega)) _ | refine Below.setCell ?_ (by first | omega | (simp [ov_size] <;> omega)) _ | refine Below.drew ?_ | refine below_drewN ?_ _))) (by first | exact B | exact B2) (by first | exact hl | exact hl2) (by first | exact H1 | exact H2))).mono ?_); rintro e w' ⟨rfl, x, rfl⟩))
    go_ret
    exact ⟨rfl, (by repeat (first | exact Below.refl _ _ | refine below_ov _ _ ?_ (by first | omega | (simp [ov_size] <;> omega)) | refine Below.alloc ?_ (by first | omega | (simp [ov_size] <;> omega)) _ | refine Below.setCell ?_ (by first | omega | (simp [ov_size] <;> omega)) _ | refine Below.drew ?_ | refine below_drewN ?_ _))⟩

theorem spec_LawOk_eq {xs ys : List Q4} {A A2 : Option Addr} {c c2 : Nat} {w : World} {v : Bool} (R : RP w A xs) (R2 : RP w A2 ys) (B : ∀ x ∈ xs, QBd x) (B2 : ∀ x ∈ ys, QBd x) (hl : xs.length ≤ 1000000000) (hl2 : ys.length ≤ 1000000000) (h : Hid ((okQs xs && okQs ys) = v)) :
    Calls Try.prog 13 #[.agg #[.slice A xs.length c, .slice A2 ys.length c2]] w fun e w' => e = .returned (.bool v) ∧ Below w.heap.size w w' := by
  have h' := h.out
  clear h
  obtain ⟨b1, h1⟩ : ∃ b, okQs xs = b := ⟨_, rfl⟩
  obtain ⟨b2, h2⟩ : ∃ b, okQs ys = b := ⟨_, rfl⟩
  rw [h1, h2] at h'
  have H1 := Lib.hid h1
  have H2 := Lib.hid h2
  clear h1 h2
  cases b1 with
  | false =>
    obtain rfl : v = false := by rw [← h']; rfl
    clear h'
    go_enter Try.func13, Try.ntmps13
    go_wp2_with ((go_at_call 40; (first | (with_reducible refine (calls_ov2 (l12All_eq (by exact R.below (by repeat (first | exact Below.refl _ _ | refine below_ov _ _ ?_ (by first | omega | (simp [ov_size] <;> omega)) | refine Below.alloc ?_ (by first | omega | (simp [ov_size] <;> omega)) _ | refine Below.setCell ?_ (by first | omega | (simp [ov_size] <;> omega)) _ | refine Below.drew ?_ | refine below_drewN ?_ _))) B hl H1)).mono ?_) | refine (calls_ov (l12All_eq (by exact R.below (by repeat (first | exact Below.refl _ _ | refine below_ov _ _ ?_ (by first | omega | (simp [ov_size] <;> omega)) | refine Below.alloc ?_ (by first | omega | (simp [ov_size] <;> omega)) _ | refine Below.setCell ?_ (by first | omega | (simp [ov_size] <;> omega)) _ | refine Below.drew ?_ | refine below_drewN ?_ _))) B hl H1)).mono ?_); rintro e w' ⟨rfl, x, rfl⟩))
    go_ret
    exact ⟨rfl, (by repeat (first | exact Below.refl _ _ | refine below_ov _ _ ?_ (by first | omega | (simp [ov_size] <;> omega)) | refine Below.alloc ?_ (by first | omega | (simp [ov_size] <;> omega)) _ | refine Below.setCell ?_ (by first | omega | (simp [ov_size] <;> omega)) _ | refine Below.drew ?_ | refine below_drewN ?_ _))⟩
  | true =>
    obtain rfl : v = b2 := by rw [← h']; rfl
    clear h'
    go_enter Try.func13, Try.ntmps13
    go_wp2_with (first | (go_at_call 40; (first | (with_reducible refine (calls_ov2 (l12All_eq (by first | exact R.below (by repeat (first | exact Below.refl _ _ | refine below_ov _ _ ?_ (by first | omega | (simp [ov_size] <;> omega)) | refine Below.alloc ?_ (by first | omega | (simp [ov_size] <;> omega)) _ | refine Below.setCell ?_ (by first | omega | (simp [ov_size] <;> omega)) _ | refine Below.drew ?_ | refine below_drewN ?_ _)) | exact R2.below (by repeat (first | exact Below.refl _ _ | refine below_ov _ _ ?_ (by first | omega | (simp [ov_size] <;> omega)) | refine Below.alloc ?_ (by first | omega | (simp [ov_size] <;> omega)) _ | refine Below.setCell ?_ (by first | omega | (simp [ov_size] <;> omega)) _ | refine Below.drew ?_ | refine below_drewN ?_ _))) (by first | exact B | exact B2) (by first | exact hl | exact hl2) (by first | exact H1 | exact H2))).mono ?_) | refine (calls_ov (l12All_eq (by first | exact R.below (by repeat (first | exact Below.refl _ _ | refine below_ov _ _ ?_ (by first | omega | (simp [ov_size] <;> omega)) | refine Below.alloc ?_ (by first | omega | (simp [ov_size] <;> omega)) _ | refine Below.setCell ?_ (by first | omega | (simp [ov_size] <;> omega)) _ | refine Below.drew ?_ | refine below_drewN ?_ _)) | exact R2.below (by repeat (first | exact Below.refl _ _ | refine below_ov _ _ ?_ (by first | omega | (simp [ov_size] <;> omega)) | refine Below.alloc ?_ (by first | omega | (simp [ov_size] <;> omega)) _ | refine Below.setCell ?_ (by first | omega | (simp [ov_size] <;> omega)) _ | refine Below.drew ?_ | refine below_drewN ?_ _))) (by first | exact B | exact B2) (by first | exact hl | exact hl2) (by first | exact H1 | exact H2))).mono ?_); rintro e w' ⟨rfl, x, rfl⟩))
    go_ret
    exact ⟨rfl, (by repeat (first | exact Below.refl _ _ | refine below_ov _ _ ?_ (by first | omega | (simp [ov_size] <;> omega)) | refine Below.alloc ?_ (by first | omega | (simp [ov_size] <;> omega)) _ | refine Below.setCell ?_ (by first | omega | (simp [ov_size] <;> omega)) _ | refine Below.drew ?_ | refine below_drewN ?_ _))⟩
end Go.Proofs.Ytncolpeeilgndaa
