/- The cursor of the reference's draws, made anew; a number. Condition: the code has at most 2^20 bytes. -/
import Derived.Test.YtabmfaamadbefaaCz
set_option linter.unusedVariables false
set_option linter.unusedSimpArgs false
set_option linter.unusedSectionVars false
namespace Go.Proofs.Ytabmfaamadbefaa
open Go.RowKit

theorem RY.ov {w : World} {A : Option Addr} {bs : List Int} (h : RY w A bs) (x : More) : RY (ov w x) A bs := h.below (below_ov w x (Below.refl _ _) (Nat.le_refl _))
theorem CurE.ov {b c : Nat} {A : Option Addr} {bs : List Int} {w : World} (h : CurE b A c bs w) (x : More) : CurE b A c bs (ov w x) := h.below (below_ov w x (Below.refl _ _) (Nat.le_refl _))
theorem CurE.lt {b c : Nat} {A : Option Addr} {bs : List Int} {w : World} (h : CurE b A c bs w) : b < w.heap.size := by
  obtain ⟨i, h0, hi, hh⟩ := h
  exact (Array.getElem?_eq_some_iff.1 hh).1
theorem CurE.set_ {b c r i : Nat} {A : Option Addr} {bs : List Int} {w : World} {v : Value} (h : CurE b A c bs w) (hne : some r ≠ some b) : CurE b A c bs (w.setCell ⟨r, i, none⟩ v) := by
  obtain ⟨k, h0, hi, hh⟩ := h
  exact ⟨k, h0, hi, (heap_setCell_other _ ⟨r, i, none⟩ _ _ (fun e => hne (by rw [e]))).trans hh⟩
theorem gb_new {w wr : World} {o : Option Nat} {r i : Nat} {v : Value} (h : w.grownBy wr o) (hr : w.heap.size ≤ r) : w.grownBy (wr.setCell ⟨r, i, none⟩ v) o :=
  ⟨h.os, h.tape, h.output, by simpa using h.size, fun k hk hne => (heap_setCell_other _ _ _ _ (by show k ≠ r; omega)).trans (h.block k hk hne)⟩
set_option maxHeartbeats 2000000 in
theorem l26New_any {c : Nat} {A : Option Addr} {bs : List Int} {n : Int} {w : World} (R : RY w A bs) (hl : bs.length ≤ 1048576) (hn : 0 ≤ n ∧ n ≤ 1000) :
    Calls Try.prog 34 #[.slice A bs.length c, .int .i64 n] w (NewPost A c bs w) := by
  have hn1 := hn.1
  have hn2 := hn.2
  go_enter Try.func34, Try.ntmps34
  go_wp2_with fail
  refine (l01New_any R hl).mono ?_
  rintro e W1 ⟨b, rfl, hb, C, K⟩
  have R1 := R.below K
  clear R
  go_wp2
  go_loopw [6] (fun i wr => ∃ k : Nat, (k : Int) ≤ n ∧ i = .int .i64 k ∧ CurE b A c bs wr ∧ RY wr A bs ∧ Below w.heap.size w wr) (fun i _ => n.toNat - (intOf i).toNat)
  case atStart => exact ⟨0, hn1, rfl, C, R1, K⟩
  case round =>
    obtain ⟨k, hk, rfl, C1, R2, hb1⟩ := hrel
    by_cases hlt : (k : Int) < n
    · go_wp2_with fail
      refine (l01Byte_any R2 C1 hl).mono ?_
      rintro e W2 ⟨x, rfl, hx, C2, K2⟩
      have R3 := R2.thru C1 K2
      have hb2 := gb_low hb1 K2 hb (Nat.le_refl _)
      clear C C1 R1 R2
      go_wp2
      go_roundw
      case rel => exact ⟨k + 1, by omega, by go_num, C2, R3, hb2⟩
      case measure => simp [intOf]; omega
    · go_wp2
      go_ret
      exact ⟨b, rfl, hb, C1, hb1⟩

set_option maxHeartbeats 2000000 in
theorem MakeNum_any {c : Nat} {A : Option Addr} {bs : List Int} {n : Int} {w : World} (R : RY w A bs) (hl : bs.length ≤ 1048576) (hn : 0 ≤ n ∧ n ≤ 1000) :
    Calls Try.prog 17 #[.slice A bs.length c, .int .i64 n] w (fun e w' => ∃ x : Int, e = .returned (.int .i64 x) ∧ (0 ≤ x ∧ x < 65536) ∧ Below w.heap.size w w') := by
  go_enter Try.func17, Try.ntmps17
  go_wp2_with fail
  refine (l26New_any R hl hn).mono ?_
  rintro e W1 ⟨b, rfl, hb, C, K⟩
  have R1 := R.below K
  clear R
  go_wp2_with fail
  refine (l01Byte_any R1 C hl).mono ?_
  rintro e W2 ⟨x, rfl, ⟨hx0, hx1⟩, C2, K2⟩
  have R2 := R1.thru C K2
  have T2 := gb_low K K2 hb (Nat.le_refl _)
  clear R1 C K K2
  go_wp2_with fail
  refine (l01Byte_any R2 C2 hl).mono ?_
  rintro e W3 ⟨y, rfl, ⟨hy0, hy1⟩, C3, K3⟩
  have T3 := gb_low T2 K3 hb (Nat.le_refl _)
  clear R2 C2 T2 K3
  go_wp2
  go_ret
  exact ⟨_, rfl, ⟨by omega, by omega⟩, T3⟩

end Go.Proofs.Ytabmfaamadbefaa
