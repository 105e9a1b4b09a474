/- Contracts of columnOf and InnerSpot, of the program and of the reference. No condition but that lengths are ints. -/
import Derived.Test.YtabmfaamadbefaaCg
import Derived.Test.YtabmfaamadbefaaFl
set_option linter.unusedSimpArgs false
set_option linter.unusedVariables false
set_option linter.unusedSectionVars false
namespace Go.Proofs.Ytabmfaamadbefaa
open Go.RowKit Go.Lib

/-- What one half plane says of the whole places of a column. -/
def colStep (x : Int) (s : Int × Int) (h : H3) : Int × Int :=
  if 0 < h.b then (s.1, if (h.c - h.a * x) / h.b < s.2 then (h.c - h.a * x) / h.b else s.2)
  else if h.b < 0 then (if s.1 < -((h.c - h.a * x) / (-h.b)) then -((h.c - h.a * x) / (-h.b)) else s.1, s.2)
  else if h.c < h.a * x then (s.1, -1001) else s
def colF (x : Int) (hs : List H3) : Int × Int := hs.foldl (colStep x) (-1000, 1000)
def deadH (x : Int) (h : H3) : Bool := decide (h.b = 0) && decide (h.c < h.a * x)
theorem colF_succ (x : Int) (hs : List H3) (k : Nat) (hk : k < hs.length) : colF x (hs.take (k + 1)) = colStep x (colF x (hs.take k)) hs[k] := by
  unfold colF; rw [List.take_succ_eq_append_getElem hk, List.foldl_append]; rfl
theorem col_top {h : H3} {x : Int} (k : HOk h) (bx : -1000 ≤ x ∧ x ≤ 1000) : (-50000000 ≤ h.a * x ∧ h.a * x ≤ 50000000) ∧ (-150000000 ≤ h.c - h.a * x ∧ h.c - h.a * x ≤ 150000000) := by
  have := mul_bd (A := 50000) (B := 1000) k.ba bx
  have := k.bc
  omega
theorem ediv_small {a b M : Int} (hb : 0 < b) (hM : 0 ≤ M) (ha : -M ≤ a ∧ a ≤ M) : -M ≤ a / b ∧ a / b ≤ M := by
  have h1 := Int.emod_lt_of_pos a hb
  have h2 := Int.emod_nonneg a (show b ≠ 0 by omega)
  have e1 := Int.mul_ediv_add_emod a b
  constructor
  · rw [Int.le_ediv_iff_mul_le hb]
    have : M * 1 ≤ M * b := Int.mul_le_mul_of_nonneg_left (by omega) hM
    rw [Int.neg_mul]; omega
  · rcases Int.lt_or_le 0 (a / b) with h | h
    · have : 1 * (a / b) ≤ b * (a / b) := Int.mul_le_mul_of_nonneg_right (by omega) (by omega)
      omega
    · omega
theorem col_bd {x : Int} (bx : -1000 ≤ x ∧ x ≤ 1000) {hs : List H3} (G : ∀ g ∈ hs, HOk g) : (-1000 ≤ (colF x hs).1 ∧ (colF x hs).1 ≤ 150000000) ∧ (-150000000 ≤ (colF x hs).2 ∧ (colF x hs).2 ≤ 1000) ∧ (hs.any (deadH x) = true → (colF x hs).2 ≤ -1001) := by
  suffices key : ∀ k, k ≤ hs.length → (-1000 ≤ (colF x (hs.take k)).1 ∧ (colF x (hs.take k)).1 ≤ 150000000) ∧ (-150000000 ≤ (colF x (hs.take k)).2 ∧ (colF x (hs.take k)).2 ≤ 1000) ∧ ((hs.take k).any (deadH x) = true → (colF x (hs.take k)).2 ≤ -1001) by
    have := key hs.length (Nat.le_refl _); rwa [List.take_length] at this
  intro k
  induction k with
  | zero => intro _; simp [colF]
  | succ k ih =>
    intro hk
    obtain ⟨b1, b2, b3⟩ := ih (by omega)
    have kg := G _ (List.getElem_mem (show k < hs.length by omega))
    obtain ⟨_, bt⟩ := col_top kg bx
    rw [colF_succ x hs k (by omega), List.take_succ_eq_append_getElem (by omega), List.any_append]
    generalize colF x (hs.take k) = s at *
    generalize hs[k] = h at *
    have ea : ∀ b : Bool, ([h].any (deadH x)) = deadH x h := fun _ => by simp
    rw [ea true]
    unfold colStep
    by_cases p : 0 < h.b
    · have := ediv_small p (by omega) bt
      rw [if_pos p]
      have hd : deadH x h = false := by unfold deadH; simp; omega
      rw [hd, Bool.or_false]
      refine ⟨b1, ?_, fun d => ?_⟩
      · split <;> omega
      · have := b3 d; split <;> omega
    · rw [if_neg p]
      by_cases n : h.b < 0
      · have := ediv_small (b := -h.b) (by omega) (by omega) bt
        rw [if_pos n]
        have hd : deadH x h = false := by unfold deadH; simp; omega
        rw [hd, Bool.or_false]
        refine ⟨?_, b2, b3⟩
        split <;> omega
      · rw [if_neg n]
        have hz : h.b = 0 := by omega
        by_cases d : h.c < h.a * x
        · rw [if_pos d]; exact ⟨b1, by omega, fun _ => Int.le_refl _⟩
        · rw [if_neg d]
          have hd : deadH x h = false := by unfold deadH; simp; omega
          rw [hd, Bool.or_false]; exact ⟨b1, b2, b3⟩
/-- The program's answer: none where a border along the column lies beside it. -/
def colI (x : Int) (hs : List H3) : Int × Int := if hs.any (deadH x) = true then (0, -1) else colF x hs
theorem colI_pick {x : Int} (bx : -1000 ≤ x ∧ x ≤ 1000) {hs : List H3} (G : ∀ g ∈ hs, HOk g) : ((colI x hs).1 ≤ (colI x hs).2 ↔ (colF x hs).1 ≤ (colF x hs).2) ∧ ((colI x hs).1 ≤ (colI x hs).2 → colI x hs = colF x hs) := by
  obtain ⟨b1, b2, b3⟩ := col_bd bx G
  unfold colI
  split
  · rename_i d
    have := b3 d
    refine ⟨⟨fun h => ?_, fun h => ?_⟩, fun h => ?_⟩
    · have h' : (0 : Int) ≤ -1 := h; omega
    · omega
    · have h' : (0 : Int) ≤ -1 := h; omega
  · exact ⟨Iff.rfl, fun _ => rfl⟩
theorem any_take_succ {α : Type} (p : α → Bool) (l : List α) (k : Nat) (hk : k < l.length) : (l.take (k + 1)).any p = ((l.take k).any p || p l[k]) := by
  rw [List.take_succ_eq_append_getElem hk, List.any_append]; simp
theorem any_false_lt {α : Type} {p : α → Bool} {l : List α} {k : Nat} (hk : k < l.length) (h : p l[k] = true) : l.any p = true := List.any_eq_true.2 ⟨_, List.getElem_mem hk, h⟩

theorem floorDiv_eq {a b q : Int} {w : World} (h : Hid (a / b = q)) (ha : -1000000000000000000 ≤ a ∧ a ≤ 1000000000000000000) (hb : 0 < b ∧ b ≤ 1000000000000000000) :
    Calls Try.prog 72 #[.int .i64 a, .int .i64 b] w fun e w' => e = .returned (.int .i64 q) ∧ w = w' := by
  obtain rfl := h.out; exact floorDiv_any a b w ha hb
theorem ceilDiv_eq {a b q : Int} {w : World} (h : Hid (ceilF a b = q)) (ha : -1000000000000000000 ≤ a ∧ a ≤ 1000000000000000000) (hb : 0 < b ∧ b ≤ 1000000000000000000) :
    Calls Try.prog 73 #[.int .i64 a, .int .i64 b] w fun e w' => e = .returned (.int .i64 q) ∧ w = w' := by
  obtain rfl := h.out; exact ceilDiv_any a b w ha hb
set_option maxHeartbeats 4000000 in
theorem columnOf_any {hs : List H3} {A : Option Addr} {c : Nat} {x : Int} {w : World} (G : ∀ g ∈ hs, HOk g) (R : R3 36 w A c hs) (hl : hs.length ≤ 1000) (bx : -1000 ≤ x ∧ x ≤ 1000) :
    Calls Try.prog 44 #[.agg #[.slice A hs.length c], .int .i64 x] w fun e w' => e = .returned (.tuple #[.int .i64 (colI x hs).1, .int .i64 (colI x hs).2]) ∧ Below w.heap.size w w' := by
  have HD := Lib.hid (fun (h : hs.any (deadH x) = true) => show colI x hs = (0, -1) from if_pos h)
  have HF := Lib.hid (fun (h : hs.any (deadH x) = false) => show colI x hs = colF x hs from if_neg (by rw [h]; simp))
  go_enter Try.func44, Try.ntmps44
  go_wp2
  go_loopw [6, 7, 14] (fun l t i wr => ∃ k : Nat, k ≤ hs.length ∧ i = .int .i64 k ∧ l = .int .i64 (colF x (hs.take k)).1 ∧ t = .int .i64 (colF x (hs.take k)).2 ∧ (hs.take k).any (deadH x) = false ∧ Below w.heap.size w wr) (fun _ _ i _ => hs.length - (intOf i).toNat)
  case atStart => exact ⟨0, Nat.zero_le _, rfl, rfl, rfl, rfl, (by repeat (first | exact bR | refine bO ?_ | refine bA ?_ | refine bS ?_ | refine bD ?_ | refine bN ?_))⟩
  case round =>
    obtain ⟨k, hk, rfl, rfl, rfl, hd, hb⟩ := hrel
    have hbs := hb.size
    by_cases hlt : k < hs.length
    · obtain ⟨g0, rfl, hg0, z0, z1, z2⟩ := (R.below hb).at_ hlt
      have kg := G _ (List.getElem_mem hlt)
      obtain ⟨b1, b2, _⟩ := col_bd bx (hs := hs.take k) (fun g hg => G g (List.mem_of_mem_take hg))
      obtain ⟨bm, bt⟩ := col_top kg bx
      have kb := kg.bb
      have ka := kg.ba
      have HS := Lib.hid (colF_succ x hs k hlt)
      have HA := Lib.hid (any_take_succ (deadH x) hs k hlt)
      have HX := Lib.hid (fun h => any_false_lt (p := deadH x) hlt h)
      have HDk := Lib.hid (show deadH x hs[k] = (decide (hs[k].b = 0) && decide (hs[k].c < hs[k].a * x)) from rfl)
      obtain ⟨⟨l, t⟩, hs0⟩ : ∃ s, colF x (hs.take k) = s := ⟨_, rfl⟩
      rw [hs0] at HS b1 b2 ⊢
      simp only at b1 b2
      have HD0 := Lib.hid hd
      clear hs0 hd G R
      obtain ⟨⟨a, b, cc⟩, hh⟩ : ∃ h, hs[k] = h := ⟨_, rfl⟩
      rw [hh] at HS HA HX HDk z0 z1 z2 bm bt kb ka
      simp only at z0 z1 z2 bm bt kb ka
      clear hh kg
      rcases Int.lt_trichotomy b 0 with p | p | p
      · have e1 := ediv_small (b := -b) (by omega) (by omega) bt
        obtain ⟨q, hq⟩ : ∃ q, (cc - a * x) / (-b) = q := ⟨_, rfl⟩
        have HQ := Lib.hid (show ceilF (-(cc - a * x)) (-b) = -q by unfold ceilF; rw [Int.neg_neg, hq])
        have HC := Lib.hid (show colStep x (l, t) ⟨a, b, cc⟩ = (if l < -q then -q else l, t) by unfold colStep; rw [if_neg (by show ¬ 0 < b; omega), if_pos p, hq])
        have HN := Lib.hid (show deadH x ⟨a, b, cc⟩ = false by rw [HDk.out]; simp; omega)
        rw [hq] at e1
        clear hq
        have hp1 : ¬ 0 < b := by omega
        go_wp2_with (first | (go_at_call 73; refine (ceilDiv_eq HQ (by omega) (by omega)).mono ?_; rintro e w' ⟨rfl, rfl⟩))
        all_goals
          go_roundw
          case rel => exact ⟨k + 1, by omega, by go_num, by rw [HS.out, HC.out] <;> go_num, by rw [HS.out, HC.out], by rw [HA.out, HD0.out, HN.out]; rfl, (by repeat (first | exact hb | refine bO ?_ | refine bA ?_ | refine bS ?_ | refine bD ?_ | refine bN ?_))⟩
          case measure => simp [intOf] <;> omega
      · subst p
        by_cases d : cc < a * x
        · have hd : cc - a * x < 0 := by omega
          have HT := Lib.hid (HD.out (HX.out (by rw [HDk.out]; simp [d])))
          go_wp2
          refine bodyPost_ret (v := .tuple #[.int .i64 0, .int .i64 (-1)]) (by simp [results, Try.results44, go_sem]) rfl ⟨by rw [HT.out], (by repeat (first | exact hb | refine bO ?_ | refine bA ?_ | refine bS ?_ | refine bD ?_ | refine bN ?_))⟩
        · have hd : ¬ cc - a * x < 0 := by omega
          have HC := Lib.hid (show colStep x (l, t) ⟨a, 0, cc⟩ = (l, t) by unfold colStep; rw [if_neg (by simp), if_neg (by simp), if_neg d])
          have HN := Lib.hid (show deadH x ⟨a, 0, cc⟩ = false by rw [HDk.out]; simp; omega)
          go_wp2
          go_roundw
          case rel => exact ⟨k + 1, by omega, by go_num, by rw [HS.out, HC.out], by rw [HS.out, HC.out], by rw [HA.out, HD0.out, HN.out]; rfl, (by repeat (first | exact hb | refine bO ?_ | refine bA ?_ | refine bS ?_ | refine bD ?_ | refine bN ?_))⟩
          case measure => simp [intOf] <;> omega
      · have e1 := ediv_small (b := b) (by omega) (by omega) bt
        obtain ⟨q, hq⟩ : ∃ q, (cc - a * x) / b = q := ⟨_, rfl⟩
        have HQ := Lib.hid hq
        have HC := Lib.hid (show colStep x (l, t) ⟨a, b, cc⟩ = (l, if q < t then q else t) by unfold colStep; rw [if_pos p, hq])
        have HN := Lib.hid (show deadH x ⟨a, b, cc⟩ = false by rw [HDk.out]; simp; omega)
        rw [hq] at e1
        clear hq
        go_wp2_with (first | (go_at_call 72; refine (floorDiv_eq HQ (by omega) (by omega)).mono ?_; rintro e w' ⟨rfl, rfl⟩))
        all_goals
          go_roundw
          case rel => exact ⟨k + 1, by omega, by go_num, by rw [HS.out, HC.out], by rw [HS.out, HC.out] <;> go_num, by rw [HA.out, HD0.out, HN.out]; rfl, (by repeat (first | exact hb | refine bO ?_ | refine bA ?_ | refine bS ?_ | refine bD ?_ | refine bN ?_))⟩
          case measure => simp [intOf] <;> omega
    · obtain rfl : k = hs.length := by omega
      rw [List.take_length] at hd ⊢
      have HT := Lib.hid (HF.out hd)
      clear hd G
      go_wp2
      refine bodyPost_ret (v := .tuple #[.int .i64 (colF x hs).1, .int .i64 (colF x hs).2]) (by simp [results, Try.results44, go_sem]) rfl ⟨by rw [HT.out], hb⟩

/-- Whether the column with number k has a whole place. -/
def fitX (hs : List H3) (k : Nat) : Bool := decide ((colI ((k : Int) - 1000) hs).1 ≤ (colI ((k : Int) - 1000) hs).2)
def innerF (hs : List H3) : P3 × Bool := match (List.range 2001).find? (fitX hs) with
  | some k => (((k : Int) - 1000, (colI ((k : Int) - 1000) hs).1, 1), true)
  | none => ((0, 0, 0), false)
def innerR (hs : List H3) : P3 × Bool := if regionOk hs = true ∧ hs ≠ [] then innerF hs else ((0, 0, 0), false)
theorem inner_hit {hs : List H3} {k : Nat} (hk : k < 2001) (hn : ∀ j, j < k → fitX hs j = false) (h : fitX hs k = true) : innerF hs = (((k : Int) - 1000, (colI ((k : Int) - 1000) hs).1, 1), true) := by
  have : (List.range 2001).find? (fitX hs) = some k := by
    rw [List.find?_range_eq_some]
    exact ⟨h, List.mem_range.2 hk, fun j hj => by rw [hn j hj]; rfl⟩
  unfold innerF; rw [this]
theorem inner_none {hs : List H3} (hn : ∀ j, j < 2001 → fitX hs j = false) : innerF hs = ((0, 0, 0), false) := by
  have : (List.range 2001).find? (fitX hs) = none := by
    rw [List.find?_eq_none]
    intro j hj
    rw [hn j (List.mem_range.1 hj)]; simp
  unfold innerF; rw [this]
theorem columnOf_eq {hs : List H3} {A : Option Addr} {c : Nat} {x l t : Int} {w : World} (h : Hid (colI x hs = (l, t))) (G : ∀ g ∈ hs, HOk g) (R : R3 36 w A c hs) (hl : hs.length ≤ 1000) (bx : -1000 ≤ x ∧ x ≤ 1000) :
    Calls Try.prog 44 #[.agg #[.slice A hs.length c], .int .i64 x] w fun e w' => e = .returned (.tuple #[.int .i64 l, .int .i64 t]) ∧ Below w.heap.size w w' := by
  have := columnOf_any G R hl bx
  rw [h.out] at this; exact this

set_option maxRecDepth 100000 in
set_option maxHeartbeats 4000000 in
theorem impl_InnerSpot_eq {hs : List H3} {a b d : Int} {ok : Bool} {A : Option Addr} {c : Nat} {w : World} (R : R3 36 w A c hs) (hl : hs.length ≤ 1000000000) (hr : Hid (innerR hs = ((a, b, d), ok))) :
    Calls Try.prog 26 #[.agg #[.slice A hs.length c]] w fun e w' => e = .returned (.tuple #[.agg #[.int .i64 a, .int .i64 b, .int .i64 d], .bool ok]) ∧ Below w.heap.size w w' := by
  have hr' := hr.out
  clear hr
  unfold innerR at hr'
  by_cases h0 : hs = []
  · rw [if_neg (by simp [h0])] at hr'
    simp at hr'
    obtain ⟨⟨rfl, rfl, rfl⟩, rfl⟩ := hr'
    have HV : Hid (decide (hs.length = 0) = true) := Lib.hid (by rw [h0]; rfl)
    clear h0
    go_enter Try.func26, Try.ntmps26
    go_wp2_with (first | (go_at_call 13; (first | (with_reducible refine (calls_ov2 (IsVoid_eq HV)).mono ?_) | refine (calls_ov (IsVoid_eq HV)).mono ?_); rintro e w' ⟨rfl, x, rfl⟩))
    refine bodyPost_ret (v := .tuple #[.agg #[.int .i64 0, .int .i64 0, .int .i64 0], .bool false]) (by simp [results, Try.results26, go_sem]) rfl ⟨rfl, (by repeat (first | exact bR | refine bO ?_ | refine bA ?_ | refine bS ?_ | refine bD ?_ | refine bN ?_))⟩
  have HV : Hid (decide (hs.length = 0) = false) := Lib.hid (decide_eq_false (fun e => h0 (List.length_eq_zero_iff.1 e)))
  obtain ⟨rk, hrk⟩ : ∃ v, regionOk hs = v := ⟨_, rfl⟩
  have HRK := Lib.hid hrk
  cases rk with
  | false =>
    rw [if_neg (by simp [hrk])] at hr'
    simp at hr'
    obtain ⟨⟨rfl, rfl, rfl⟩, rfl⟩ := hr'
    clear hrk h0
    go_enter Try.func26, Try.ntmps26
    go_wp2_with (first | (go_at_call 13; (first | (with_reducible refine (calls_ov2 (IsVoid_eq HV)).mono ?_) | refine (calls_ov (IsVoid_eq HV)).mono ?_); rintro e w' ⟨rfl, x, rfl⟩) | (go_at_call 30; (first | (with_reducible refine (calls_ov2 (impl_RegionOk_eq (by repeat (first | assumption | refine R3.ov ?_ _ | refine R3.alloc ?_ _)) hl HRK)).mono ?_) | refine (calls_ov (impl_RegionOk_eq (by repeat (first | assumption | refine R3.ov ?_ _ | refine R3.alloc ?_ _)) hl HRK)).mono ?_); rintro e w' ⟨rfl, x, rfl⟩))
    refine bodyPost_ret (v := .tuple #[.agg #[.int .i64 0, .int .i64 0, .int .i64 0], .bool false]) (by simp [results, Try.results26, go_sem]) rfl ⟨rfl, (by repeat (first | exact bR | refine bO ?_ | refine bA ?_ | refine bS ?_ | refine bD ?_ | refine bN ?_))⟩
  | true =>
    rw [if_pos ⟨hrk, h0⟩] at hr'
    obtain ⟨G, _, h40⟩ := regionOk_parts hrk h0
    have HR := Lib.hid hr'
    have HH := Lib.hid (fun k => inner_hit (hs := hs) (k := k))
    have HN := Lib.hid (inner_none (hs := hs))
    clear hr' hrk h0
    go_enter Try.func26, Try.ntmps26
    go_wp2_with (first | (go_at_call 13; (first | (with_reducible refine (calls_ov2 (IsVoid_eq HV)).mono ?_) | refine (calls_ov (IsVoid_eq HV)).mono ?_); rintro e w' ⟨rfl, x, rfl⟩) | (go_at_call 30; (first | (with_reducible refine (calls_ov2 (impl_RegionOk_eq (by repeat (first | assumption | refine R3.ov ?_ _ | refine R3.alloc ?_ _)) hl HRK)).mono ?_) | refine (calls_ov (impl_RegionOk_eq (by repeat (first | assumption | refine R3.ov ?_ _ | refine R3.alloc ?_ _)) hl HRK)).mono ?_); rintro e w' ⟨rfl, x, rfl⟩))
    obtain ⟨W0, hW⟩ : ∃ W0, W0 = ov ((w.alloc (.cells #[.slice A hs.length c] 25)).alloc (.cells #[.int .i64 0, .int .i64 0, .int .i64 0] 31)) x := ⟨_, rfl⟩
    rw [← hW]
    have T0 : Below w.heap.size w W0 := by rw [hW]; exact (by repeat (first | exact bR | refine bO ?_ | refine bA ?_ | refine bS ?_ | refine bD ?_ | refine bN ?_))
    have X1 := Lib.hid (show W0.heap[w.heap.size]? = some (.cells #[.slice A hs.length c] 25 (0, 0)) by rw [hW]; exact ov_blk (alloc_blk (heap_alloc_new _ _)))
    have X2 := Lib.hid (show W0.heap[w.heap.size + 1]? = some (.cells #[.int .i64 0, .int .i64 0, .int .i64 0] 31 (0, 0)) by rw [hW]; exact ov_blk (heap_new_at (by simp) rfl))
    clear hW
    have t0 := T0.size
    have hb2 : w.heap.size ≤ w.heap.size + 1 := by omega
    generalize w.heap.size + 1 = b2 at X2 hb2 ⊢
    obtain ⟨b1, hb1⟩ : ∃ b, w.heap.size = b := ⟨_, rfl⟩
    have RW := R.below T0
    rw [hb1] at X1 ⊢
    go_loopw [4] (fun i wr => ∃ k : Nat, k ≤ 2001 ∧ i = .int .i64 ((k : Int) - 1000) ∧ (∀ j, j < k → fitX hs j = false) ∧ Below W0.heap.size W0 wr) (fun i _ => (1001 - intOf i).toNat)
    case atStart => exact ⟨0, by omega, rfl, fun j hj => by omega, Below.refl _ _⟩
    case round =>
      obtain ⟨k, hk, rfl, hn, hb⟩ := hrel
      have hbs := hb.size
      have X3 := box_below X1 hb
      have X4 := box_below X2 hb
      have x1 := cell_blk (j := 0) (v := .slice A hs.length c) X3.out rfl
      have l1 := (Array.getElem?_eq_some_iff.1 X3.out).1
      have x2 := cell_blk (j := 0) (v := .int .i64 0) X4.out rfl
      have x3 := cell_blk (j := 1) (v := .int .i64 0) X4.out rfl
      have x4 := cell_blk (j := 2) (v := .int .i64 0) X4.out rfl
      have f2 := frozen_blk (j := 0) X4.out
      have f3 := frozen_blk (j := 1) X4.out
      have f4 := frozen_blk (j := 2) X4.out
      have l2 := (Array.getElem?_eq_some_iff.1 X4.out).1
      have RR := RW.below hb
      by_cases hlt : k < 2001
      · obtain ⟨⟨l, t⟩, hc⟩ : ∃ s, colI ((k : Int) - 1000) hs = s := ⟨_, rfl⟩
        have HC := Lib.hid hc
        have HF := Lib.hid (show fitX hs k = decide (l ≤ t) by unfold fitX; rw [hc])
        have HK := Lib.hid (HH.out k hlt hn)
        have HP := Lib.hid hn
        have HE := Lib.hid (show (colI ((k : Int) - 1000) hs).1 = l by rw [hc])
        have bi := (col_bd (x := (k : Int) - 1000) (by omega) G)
        have bc : -1000000000000 ≤ l ∧ l ≤ 1000000000000 ∧ -1000000000000 ≤ t ∧ t ≤ 1000000000000 := by
          unfold colI at hc; split at hc
          · simp at hc; omega
          · rw [hc] at bi; simp only at bi; omega
        clear hc hn bi
        by_cases hf : l ≤ t
        · have hv := HR.out
          rw [HK.out (by rw [HF.out]; exact decide_eq_true hf), HE.out] at hv
          simp at hv
          obtain ⟨⟨rfl, rfl, rfl⟩, rfl⟩ := hv
          go_wp2_with (first | (go_at_call 44; (first | (with_reducible refine (calls_ov2 (columnOf_eq HC G (by repeat (first | assumption | refine R3.ov ?_ _ | refine R3.alloc ?_ _)) (by omega) (by omega))).mono ?_) | refine (calls_ov (columnOf_eq HC G (by repeat (first | assumption | refine R3.ov ?_ _ | refine R3.alloc ?_ _)) (by omega) (by omega))).mono ?_); rintro e w' ⟨rfl, x, rfl⟩))
          refine bodyPost_ret (v := .tuple #[.agg #[.int .i64 ((k : Int) - 1000), .int .i64 l, .int .i64 1], .bool true]) (by simp [results, Try.results26, go_sem, *]) rfl ⟨rfl, (by repeat (first | exact T0.trans (hb.mono t0) | refine bO ?_ | refine bA ?_ | refine bS ?_ | refine bD ?_ | refine bN ?_))⟩
        · have HNX := Lib.hid (show ∀ j, j < k + 1 → fitX hs j = false by
            intro j hj
            by_cases hjk : j < k
            · exact HP.out j hjk
            · obtain rfl : j = k := by omega
              rw [HF.out]; exact decide_eq_false hf)
          go_wp2_with (first | (go_at_call 44; (first | (with_reducible refine (calls_ov2 (columnOf_eq HC G (by repeat (first | assumption | refine R3.ov ?_ _ | refine R3.alloc ?_ _)) (by omega) (by omega))).mono ?_) | refine (calls_ov (columnOf_eq HC G (by repeat (first | assumption | refine R3.ov ?_ _ | refine R3.alloc ?_ _)) (by omega) (by omega))).mono ?_); rintro e w' ⟨rfl, x, rfl⟩))
          go_roundw
          case rel => exact ⟨k + 1, by omega, by go_num, HNX.out, (by repeat (first | exact hb | refine bO ?_ | refine bA ?_ | refine bS ?_ | refine bD ?_ | refine bN ?_))⟩
          case measure => simp [intOf] <;> omega
      · obtain rfl : k = 2001 := by omega
        have hv := HR.out
        rw [HN.out hn] at hv
        simp at hv
        obtain ⟨⟨rfl, rfl, rfl⟩, rfl⟩ := hv
        clear hn
        go_wp2
        refine bodyPost_ret (v := .tuple #[.agg #[.int .i64 0, .int .i64 0, .int .i64 0], .bool false]) (by simp [results, Try.results26, go_sem, *]) rfl ⟨rfl, (by repeat (first | exact T0.trans (hb.mono t0) | refine bO ?_ | refine bA ?_ | refine bS ?_ | refine bD ?_ | refine bN ?_))⟩

end Go.Proofs.Ytabmfaamadbefaa
