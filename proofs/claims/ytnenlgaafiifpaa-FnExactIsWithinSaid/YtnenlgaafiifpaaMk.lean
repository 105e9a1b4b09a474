/- Contracts of the reference's l05Make and l05Fit: the canonical region of half planes. Condition: the half planes are valid, and few. -/
import Derived.Test.YtnenlgaafiifpaaIe
import Derived.Test.YtnenlgaafiifpaaSo
import Derived.Laws.AppendOwnNone
set_option linter.unusedSimpArgs false
set_option linter.unusedVariables false
set_option linter.unusedSectionVars false
namespace Go.Proofs.Ytnenlgaafiifpaa
open Go.RowKit

theorem RB.new0 {B n : Nat} {E : TypeId} {w : World} {cs : Array Value} (hn : n = w.heap.size) (hB : B ≤ w.heap.size) (h : cs = #[]) : RB B E (w.alloc (.cells cs E)) (some ⟨n, 0, none⟩) 0 [] := by
  subst h hn
  exact ⟨rfl, .inr ⟨w.heap.size, 0, _, rfl, hB, heap_alloc_new _ _, Nat.le_refl _, by unfold maxLen; omega, rfl, rfl⟩⟩

/-- append(s, x...) on rows of half planes: s of the call's own, x any row, empty or nil too. -/
theorem wpList_append_rows {ops : Array Oper} {rest : List Oper} {o : Oper} {a : Act} {Q : Exit → Act → World → Prop} {w : World} (hgd : o.guard = none) (s x : Operand)
    (ho : o.op = .call { callee := .builtin .append, args := #[s, x], argTypes := #[26, 26] }) (B : Nat) {A A2 : Option Addr} {c c2 : Nat} {os xs : List H3}
    (hs : a.eval s = .slice A os.length c) (hown : RB B 38 w A c os) (hx : a.eval x = .slice A2 xs.length c2) (src : R3 38 w A2 c2 xs) (hl : os.length + xs.length ≤ 5000) (hB : B ≤ w.heap.size)
    (h : ∀ A' c' w', RB B 38 w' A' c' (os ++ xs) → Hid (∀ {w0 : World}, Below B w0 w → B ≤ w0.heap.size → Below B w0 w') → wpList Try.prog ops Q rest (a.put o.dst (.slice A' (os.length + xs.length) c')) w') : wpList Try.prog ops Q (o :: rest) a w := by
  obtain ⟨i0, hi, hz0, hz1, hz2⟩ := info_parts info_half
  rcases src.2 with ⟨e, e0⟩ | ⟨g, cap, cur, e, _⟩
  · injection e with e1 e2 e3
    subst e1 e3
    have hx0 : xs = [] := List.length_eq_zero_iff.1 e2
    subst hx0
    refine wpList_append_own_none (P := Try.prog) hgd s x 26 ho B 38 i0 3 Try.underlying26 hi _ _ _ hs hown hx ?_
    exact h A c w (by rw [List.append_nil]; exact hown) (Lib.hid fun h _ => h)
  · injection e with e1 e2 e3
    subst e1 e3
    refine wpList_append_own (P := Try.prog) w hgd s x 26 ho B 38 i0 (.agg #[.int .i64 0, .int .i64 0, .int .i64 0]) 3 24 Try.underlying26 hi hz0 hz1 hz2 rfl (by decide) _ _ _ hs hown ⟨g, 0, none⟩ xs.length c2 (cells3 xs) hx (cells3_length _) (news_row src) (cells3_one _) (by unfold maxLen; omega) (by omega) hB ?_
    intro v' w' O hg _
    have O' : w'.ownsRow B 38 3 v' (os ++ xs).length (cells3 (os ++ xs)) := by rw [cells3_append, List.length_append]; exact O
    obtain ⟨A', c', rfl, R⟩ := own_slice O'
    rw [List.length_append]
    exact h A' c' w' R (Lib.hid fun hb hB0 => grown_below hb hg (fun k hk => (hown.lt k hk).1) hB0)

theorem spec_FrameHalves_any {w : World} : Calls Try.prog 113 #[] w (InsPost w.heap.size w frameH) := by
  go_enter Try.func113, Try.ntmps113
  go_wp2
  go_ret
  refine ⟨some ⟨w.heap.size, 0, none⟩, 4, rfl, ⟨rfl, .inr ⟨w.heap.size, 4, _, rfl, Nat.le_refl _, heap_alloc_new _ _, Nat.le_refl _, by unfold maxLen; omega, rfl, rfl⟩⟩, (Below.refl _ _).alloc (Nat.le_refl _) _⟩

theorem l05Sorted_eq {xs ys : List H3} {A : Option Addr} {c : Nat} {w : World} (h : Hid (sortH xs = ys)) (G : ∀ g ∈ xs, HOk g) (R : R3 38 w A c xs) (hl : xs.length ≤ 500) {n : Nat} (hn : n = xs.length) :
    Calls Try.prog 112 #[.slice A n c] w (InsPost w.heap.size w ys) := by
  subst hn
  rw [← h.out]; exact l05Sorted_any G R hl
theorem l05IsEdge_eq {L : List H3} {k : Nat} {A : Option Addr} {c : Nat} {w : World} {v : Bool} (G : ∀ g ∈ L, HOk g) (hk : k < L.length) (R : R3 38 w A c L) (hl : L.length ≤ 1000) (h : Hid (edgeE L k L[k] = v)) :
    Calls Try.prog 114 #[.slice A L.length c, .int .i64 k] w fun e w' => e = .returned (.bool v) ∧ Below w.heap.size w w' := by
  rw [← h.out]; exact l05IsEdge_any G hk R hl
theorem pickE_take {L : List H3} {k : Nat} (hk : k < L.length) (e : edgeE L k L[k] = true) : pickE L (k + 1) = pickE L k ++ [L[k]] := by simp [pickE, hk, e]
theorem pickE_skip {L : List H3} {k : Nat} (hk : k < L.length) (e : edgeE L k L[k] = false) : pickE L (k + 1) = pickE L k := by simp [pickE, hk, e]
theorem pickE_len (L : List H3) : ∀ k, (pickE L k).length ≤ k
  | 0 => by simp [pickE]
  | k + 1 => by
    have := pickE_len L k
    simp only [pickE]
    split
    · split
      · simp; omega
      · omega
    · omega
/-- What a call that makes a region leaves. -/
def RegOut (w : World) (out : List H3) (e : Ending) (w' : World) : Prop := ∃ A c, e = .returned (.agg #[.slice A out.length c]) ∧ RB w.heap.size 38 w' A c out ∧ Below w.heap.size w w'

set_option maxRecDepth 100000 in
set_option maxHeartbeats 4000000 in
theorem l05Make_eq {hs out : List H3} {A : Option Addr} {c : Nat} {w : World} (G : ∀ g ∈ hs, HOk g) (R : R3 38 w A c hs) (hl : hs.length ≤ 300) (hr : Hid (makeR hs = out)) :
    Calls Try.prog 70 #[.slice A hs.length c] w (RegOut w out) := by
  obtain ⟨i0, hi, hz0, hz1, hz2⟩ := info_parts info_half
  obtain ⟨L, hL⟩ : ∃ L, sorted4 hs = L := ⟨_, rfl⟩
  have GL := good_sorted G
  have hLl := sortH_length (hs ++ frameH)
  rw [show sortH (hs ++ frameH) = sorted4 hs from rfl, hL] at hLl
  have hLl : L.length ≤ 304 := by simp [frameH] at hLl; omega
  have Gf : ∀ g ∈ hs ++ frameH, HOk g := fun g hg => by
    rcases List.mem_append.1 hg with h | h
    · exact G g h
    · exact frameH_ok g h
  have hro := hr.out
  unfold makeR at hro
  rw [hL] at GL hro
  have HO := Lib.hid hro
  have HL := Lib.hid (show sortH (hs ++ frameH) = L from hL)
  clear hL hro hr
  have okL := GL.ok
  go_enter Try.func70, Try.ntmps70
  go_wp2_with (first
    | (at_builtin; refine wpList_append_rows (os := []) (xs := hs) rfl _ _ rfl (w.heap.size + 1) rfl (RB.new0 (by simp) (by simp) rfl) rfl ((R3.alloc R _).alloc _) (by simp; omega) (by simp) ?_; intro A1 c1 w1 R1 B1; rw [List.nil_append] at R1; have hb1 : Below (w.heap.size + 1) (w.alloc (.cells #[.slice none 0 0] 28)) w1 := B1.out (by repeat (first | exact Below.refl _ _ | refine below_ov _ _ ?_ (by first | omega | (simp [ov_size] <;> omega)) | refine Below.alloc ?_ (by first | omega | (simp [ov_size] <;> omega)) _ | refine Below.setCell ?_ (by first | omega | (simp [ov_size] <;> omega)) _ | refine Below.drew ?_ | refine below_drewN ?_ _)) (by simp))
    | (go_at_call 113; refine spec_FrameHalves_any.mono ?_; rintro e w2 ⟨AF, cF, rfl, RF, hbF⟩; have hb2 : Below (w.heap.size + 1) (w.alloc (.cells #[.slice none 0 0] 28)) w2 := hb1.trans (hbF.mono (by have := hb1.size; simpa using this)); have R2 := R1.below hbF)
    | (at_builtin; refine wpList_append_rows (os := hs) (xs := frameH) rfl _ _ rfl (w.heap.size + 1) (by first | rfl | simp [Act.eval, Act.put]) R2 rfl RF.r3 (by simp [frameH]; omega) (by have := hb2.size; simpa using this) ?_; intro A3 c3 w3 R3' B3; have hb3 : Below (w.heap.size + 1) (w.alloc (.cells #[.slice none 0 0] 28)) w3 := B3.out hb2 (by simp)))
  go_wp2_with fail
  refine (l05Sorted_eq HL Gf R3'.r3 (by simp [frameH]; omega) (by simp)).mono ?_
  rintro e w4 ⟨A4, c4, rfl, R4, hb4⟩
  have hb4w : Below (w.heap.size + 1) (w.alloc (.cells #[.slice none 0 0] 28)) w4 := hb3.trans (hb4.mono (by have := hb3.size; simpa using this))
  have RL := R4.r3
  have s4 := hb4w.size
  replace s4 : w.heap.size + 1 ≤ w4.heap.size := by simpa using s4
  clear R1 B1 R2 R3' B3 RF hbF hb1 hb2 hb3 hb4 R4 G Gf HL
  go_wp2
  go_loopw [4, 16] (fun o i wr => ∃ (k : Nat) (A' : Option Addr) (c' : Nat), k ≤ L.length ∧ i = .int .i64 k ∧ o = .slice A' (pickE L k).length c' ∧ RB (w4.heap.size) 38 wr A' c' (pickE L k) ∧ Below w4.heap.size w4 wr) (fun _ i _ => L.length - (intOf i).toNat)
  case atStart => exact ⟨0, some ⟨w4.heap.size, 0, none⟩, 0, Nat.zero_le _, rfl, rfl, RB.new0 rfl (Nat.le_refl _) rfl, (Below.refl _ _).alloc (Nat.le_refl _) _⟩
  case round =>
    obtain ⟨k, A', c', hk, rfl, rfl, RO, hb⟩ := hrel
    have hbs := hb.size
    have ol := pickE_len L k
    by_cases hlt : k < L.length
    · have RLw := RL.below hb
      obtain ⟨gL, rfl, hgL, z0, z1, z2⟩ := RLw.at_ hlt
      obtain ⟨ed, hE⟩ : ∃ e, edgeE L k L[k] = e := ⟨_, rfl⟩
      have HE := Lib.hid hE
      clear hE
      cases ed with
      | false =>
        have HN := Lib.hid (pickE_skip hlt HE.out)
        go_wp2_with ((go_at_call 114; (first | (with_reducible refine (calls_ov2 (l05IsEdge_eq okL hlt (R3.alloc RLw _) (by omega) HE)).mono ?_) | refine (calls_ov (l05IsEdge_eq okL hlt (R3.alloc RLw _) (by omega) HE)).mono ?_); rintro e w' ⟨rfl, x, rfl⟩))
        go_roundw
        case rel => exact ⟨k + 1, A', c', by omega, by go_num, by rw [HN.out], by rw [HN.out]; exact RO.below (by repeat (first | exact Below.refl _ _ | refine below_ov _ _ ?_ (by first | omega | (simp [ov_size] <;> omega)) | refine Below.alloc ?_ (by first | omega | (simp [ov_size] <;> omega)) _ | refine Below.setCell ?_ (by first | omega | (simp [ov_size] <;> omega)) _ | refine Below.drew ?_ | refine below_drewN ?_ _)), (by repeat (first | exact hb | refine below_ov _ _ ?_ (by first | omega | (simp [ov_size] <;> omega)) | refine Below.alloc ?_ (by first | omega | (simp [ov_size] <;> omega)) _ | refine Below.setCell ?_ (by first | omega | (simp [ov_size] <;> omega)) _ | refine Below.drew ?_ | refine below_drewN ?_ _))⟩
        case measure => simp [intOf]; omega
      | true =>
        have HN := Lib.hid (pickE_take hlt HE.out)
        go_wp2_with (first | (go_at_call 114; (first | (with_reducible refine (calls_ov2 (l05IsEdge_eq okL hlt (R3.alloc RLw _) (by omega) HE)).mono ?_) | refine (calls_ov (l05IsEdge_eq okL hlt (R3.alloc RLw _) (by omega) HE)).mono ?_); rintro e w' ⟨rfl, x, rfl⟩) | (at_builtin; refine wpList_append_own _ rfl _ _ 26 rfl w4.heap.size 38 i0 (.agg #[.int .i64 0, .int .i64 0, .int .i64 0]) 3 24 Try.underlying26 hi hz0 hz1 hz2 rfl (by decide) _ _ _ rfl (RO.below (by repeat (first | exact Below.refl _ _ | refine below_ov _ _ ?_ (by first | omega | (simp [ov_size] <;> omega)) | refine Below.alloc ?_ (by first | omega | (simp [ov_size] <;> omega)) _ | refine Below.setCell ?_ (by first | omega | (simp [ov_size] <;> omega)) _ | refine Below.drew ?_ | refine below_drewN ?_ _))) ⟨_, 0, none⟩ 1 1 (cells3 [L[k]]) rfl rfl (news_at (heap_alloc_new _ _)) (cells3_one _) (by unfold maxLen; omega) (by omega) (by simp [ov_size]; omega) ?_; intro v2 w2 O2 hg2 _; obtain ⟨A5, c5, rfl, RO5⟩ := own_slice1 O2; have HG := Lib.hid hg2; clear hg2 O2))
        go_roundw
        case rel => exact ⟨k + 1, A5, c5, by omega, by go_num, by rw [HN.out, List.length_append]; rfl, by rw [HN.out]; exact RO5, grown_below (B := w4.heap.size) (by repeat (first | exact hb | refine below_ov _ _ ?_ (by first | omega | (simp [ov_size] <;> omega)) | refine Below.alloc ?_ (by first | omega | (simp [ov_size] <;> omega)) _ | refine Below.setCell ?_ (by first | omega | (simp [ov_size] <;> omega)) _ | refine Below.drew ?_ | refine below_drewN ?_ _)) HG.out (fun k hk => ((RO.lt k hk).1)) (Nat.le_refl _)⟩
        case measure => simp [intOf]; omega
    · obtain rfl : k = L.length := by omega
      have hbw := hb4w.trans (hb.mono s4)
      have HX := Lib.hid ((hbw.block w.heap.size (by omega)).trans (heap_alloc_new _ _))
      have x0 := cell_blk (j := 0) (v := .slice none 0 0) HX.out rfl
      have f0 := frozen_blk (j := 0) HX.out
      have l0 := (Array.getElem?_eq_some_iff.1 HX.out).1
      have hbW : Below w.heap.size w wr := ((Below.refl _ _).alloc (Nat.le_refl _) _).trans (hbw.mono (by omega))
      have hme := HO.out
      unfold makeE at hme
      obtain ⟨os, hos⟩ : ∃ os, pickE L L.length = os := ⟨_, rfl⟩
      rw [hos] at hme RO ol ⊢
      by_cases h3 : os.length < 3
      · rw [if_pos h3] at hme
        subst hme
        go_wp2
        refine bodyPost_ret (v := .agg #[.slice none 0 0]) (by simp [results, Try.results70, go_sem, x0, l0]) rfl ⟨none, 0, rfl, RB.nil _ _ _, ?_⟩
        exact (by repeat (first | exact hbW | refine below_ov _ _ ?_ (by first | omega | (simp [ov_size] <;> omega)) | refine Below.alloc ?_ (by first | omega | (simp [ov_size] <;> omega)) _ | refine Below.setCell ?_ (by first | omega | (simp [ov_size] <;> omega)) _ | refine Below.drew ?_ | refine below_drewN ?_ _))
      · rw [if_neg h3] at hme
        subst hme
        go_wp2
        refine bodyPost_ret (v := .agg #[.slice A' os.length c']) (by simp [results, Try.results70, go_sem, x0, l0]) rfl ⟨A', c', rfl, ?_, ?_⟩
        · exact (RO.weak (by omega)).set_box HX.out (by decide)
        · exact (by repeat (first | exact hbW | refine below_ov _ _ ?_ (by first | omega | (simp [ov_size] <;> omega)) | refine Below.alloc ?_ (by first | omega | (simp [ov_size] <;> omega)) _ | refine Below.setCell ?_ (by first | omega | (simp [ov_size] <;> omega)) _ | refine Below.drew ?_ | refine below_drewN ?_ _))
end Go.Proofs.Ytnenlgaafiifpaa
