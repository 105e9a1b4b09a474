/- Contracts of l06Sum, l07Top and ErodeRegion of the reference. No condition but that lengths are ints. -/
import Derived.Test.YtgdleimdenbnlaaGreatEr
import Derived.Test.YtgdleimdenbnlaaGreatSy
set_option linter.unusedSimpArgs false
set_option linter.unusedVariables false
set_option linter.unusedSectionVars false
namespace Go.Proofs.YtgdleimdenbnlaaGreat
open Go.RowKit

structure SumBd (n d m e : Int) : Prop where
  bd : 1 ≤ d ∧ d ≤ 5000000000
  be : 1 ≤ e ∧ e ≤ 5000000000
  bn : -500000000000000000 ≤ n * e ∧ n * e ≤ 500000000000000000
  bm : -500000000000000000 ≤ m * d ∧ m * d ≤ 500000000000000000
  bb : d * e ≤ 5000000000
theorem sum_guard {n e : Int} (be : 1 ≤ e ∧ e ≤ 5000000000) (bn : -500000000000000000 ≤ n * e ∧ n * e ≤ 500000000000000000) : n ≤ Int.tdiv 9000000000000000000 e ∧ -n ≤ Int.tdiv 9000000000000000000 e ∧ -500000000000000000 ≤ n ∧ n ≤ 500000000000000000 := by
  rw [Int.tdiv_eq_ediv_of_nonneg (by omega)]
  have h1 : n ≤ 9000000000000000000 / e := (Int.le_ediv_iff_mul_le (by omega)).2 (by omega)
  have h2 : -n ≤ 9000000000000000000 / e := (Int.le_ediv_iff_mul_le (by omega)).2 (by rw [Int.neg_mul]; omega)
  have k1 := mul_le_bd (a := n) (M := 500000000000000000) (g := e.toNat) (by omega) (by omega) (by rw [Int.toNat_of_nonneg (by omega)]; exact bn)
  exact ⟨h1, h2, k1.1, k1.2⟩
set_option maxHeartbeats 8000000 in
theorem l06Sum_eq {n d m e p q : Int} {w : World} (B : SumBd n d m e) (hr : Hid (ratOf (n * e + m * d) (d * e) = (p, q))) (ho : ratioOk p q = true) :
    Calls Tryz.prog 98 #[.agg #[.int .i64 n, .int .i64 d], .agg #[.int .i64 m, .int .i64 e]] w fun en w' => en = .returned (.tuple #[.agg #[.int .i64 p, .int .i64 q], .bool true]) ∧ Below w.heap.size w w' := by
  obtain ⟨bd, be, bn, bm, bb⟩ := B
  obtain ⟨g1, g2, b1, b2⟩ := sum_guard be bn
  obtain ⟨g3, g4, b3, b4⟩ := sum_guard bd bm
  obtain ⟨g5, g6, _⟩ := sum_guard (n := d) be ⟨by have := Int.mul_pos (show 0 < d by omega) (show 0 < e by omega); omega, by omega⟩
  have de := Int.mul_pos (show 0 < d by omega) (show 0 < e by omega)
  obtain ⟨qb, pb⟩ := ratioOk_bd ho
  have ze : (e == 0) = false := by simp; omega
  have zd : (d == 0) = false := by simp; omega
  have k1 : -9223372036854775808 ≤ Int.tdiv 9000000000000000000 e ∧ Int.tdiv 9000000000000000000 e ≤ 9223372036854775807 := by rw [Int.tdiv_eq_ediv_of_nonneg (by omega)]; have := Int.ediv_le_self (a := 9000000000000000000) e (by omega); have := Int.ediv_nonneg (a := 9000000000000000000) (b := e) (by omega) (by omega); omega
  have k2 : -9223372036854775808 ≤ Int.tdiv 9000000000000000000 d ∧ Int.tdiv 9000000000000000000 d ≤ 9223372036854775807 := by rw [Int.tdiv_eq_ediv_of_nonneg (by omega)]; have := Int.ediv_le_self (a := 9000000000000000000) d (by omega); have := Int.ediv_nonneg (a := 9000000000000000000) (b := d) (by omega) (by omega); omega
  have m1 : decide (Int.tdiv 9000000000000000000 e < if n < -n then -n else n) = false := decide_eq_false (by split <;> omega)
  have m2 : decide (Int.tdiv 9000000000000000000 d < if m < -m then -m else m) = false := decide_eq_false (by split <;> omega)
  have m3 : decide (Int.tdiv 9000000000000000000 e < d) = false := decide_eq_false (by omega)
  have n3 : ¬ 9000000000000000000 - n * e < m * d := by omega
  have n4 : ¬ m * d < -9000000000000000000 - n * e := by omega
  have hc : (0 < n * e ∧ ¬ n * e < 0) ∨ (¬ 0 < n * e ∧ n * e < 0) ∨ (¬ 0 < n * e ∧ ¬ n * e < 0) := by omega
  clear g1 g2 g3 g4 g5 g6
  rcases hc with ⟨s1, s2⟩ | ⟨s1, s2⟩ | ⟨s1, s2⟩
  all_goals
    go_enter Tryz.func98, Tryz.ntmps98
    go_wp2
    ((first | (with_reducible refine wp_region_calm2 (by kernel_rfl) (by kernel_rfl) ?_) | refine wp_region_calm (by kernel_rfl) (by kernel_rfl) ?_); (repeat (go_big_quiet_step (first | fail))); refine wpQuiet_nil ?_; rintro _ ⟨y, rfl⟩)
    generalize (if n < -n then -n else n) = mx1 at m1 ⊢
    generalize (if m < -m then -m else m) = mx2 at m2 ⊢
    go_wp2_with (first | (go_at_call 96; (first | (with_reducible refine (calls_ov2 (spec_RatioOf_eq hr (by omega) (by omega))).mono ?_) | refine (calls_ov (spec_RatioOf_eq hr (by omega) (by omega))).mono ?_); rintro e w' ⟨rfl, x, rfl⟩))
    clear n3 n4 s1 s2 m1 m2 m3 k1 k2 hr bn bm bb bd be de b1 b2 b3 b4
    go_region_with ((go_at_call 100; (first | (with_reducible refine (calls_ov2 (spec_RatioOk_eq ho (by omega) (by omega))).mono ?_) | refine (calls_ov (spec_RatioOk_eq ho (by omega) (by omega))).mono ?_); rintro e w' ⟨rfl, x, rfl⟩))
    all_goals go_wp2
    all_goals (refine bodyPost_ret (v := .tuple #[.agg #[.int .i64 p, .int .i64 q], .bool true]) (by simp [results, Tryz.results98, go_sem]) rfl ⟨rfl, ?_⟩)
    all_goals (repeat (first | exact bR | refine bO ?_ | refine bA ?_ | refine bS ?_ | refine bD ?_ | refine bN ?_))

set_option maxHeartbeats 1000000 in
theorem l07Top_eq {a b n d : Int} {m : H3} {v : Bool} {w : World} (h : Hid (topF a b n d = (m, v))) (ha : -50000 ≤ a ∧ a ≤ 50000) (hb : -50000 ≤ b ∧ b ≤ 50000) (hn : -9223372036854775807 ≤ n ∧ n ≤ 9223372036854775807) (hd : -9223372036854775808 ≤ d ∧ d ≤ 9223372036854775807) :
    Calls Tryz.prog 123 #[.int .i64 a, .int .i64 b, .agg #[.int .i64 n, .int .i64 d]] w fun en w' => en = .returned (.tuple #[.agg #[.int .i64 m.a, .int .i64 m.b, .int .i64 m.c], .bool v]) ∧ Below w.heap.size w w' := by
  have h' := h.out
  unfold topF at h'
  cases ho : ratioOk n d with
  | false =>
    rw [if_neg (by rw [ho]; simp)] at h'
    simp at h'
    obtain ⟨rfl, rfl⟩ := h'
    go_enter Tryz.func123, Tryz.ntmps123
    go_wp2_with ((go_at_call 100; (first | (with_reducible refine (calls_ov2 (spec_RatioOk_eq ho (by omega) (by omega))).mono ?_) | refine (calls_ov (spec_RatioOk_eq ho (by omega) (by omega))).mono ?_); rintro e w' ⟨rfl, x, rfl⟩))
    refine bodyPost_ret (v := .tuple #[.agg #[.int .i64 0, .int .i64 0, .int .i64 0], .bool false]) (by simp [results, Tryz.results123, go_sem]) rfl ⟨rfl, ?_⟩
    (repeat (first | exact bR | refine bO ?_ | refine bA ?_ | refine bS ?_ | refine bD ?_ | refine bN ?_))
  | true =>
    obtain ⟨db, _⟩ := ratioOk_bd ho
    by_cases h5 : d ≤ 50000
    · rw [if_pos ⟨ho, h5⟩] at h'
      have HM := Lib.hid h'
      have p1 := mul_bd (x := a) (y := d) (B := 50000) ha (by omega)
      have p2 := mul_bd (x := b) (y := d) (B := 50000) hb (by omega)
      clear h'
      go_enter Tryz.func123, Tryz.ntmps123
      go_wp2_with (first | (go_at_call 100; (first | (with_reducible refine (calls_ov2 (spec_RatioOk_eq ho (by omega) (by omega))).mono ?_) | refine (calls_ov (spec_RatioOk_eq ho (by omega) (by omega))).mono ?_); rintro e w' ⟨rfl, x, rfl⟩) | (go_at_call 140; (first | (with_reducible refine (calls_ov2 (spec_HalfOf_eq HM (by omega) (by omega) (by omega))).mono ?_) | refine (calls_ov (spec_HalfOf_eq HM (by omega) (by omega) (by omega))).mono ?_); rintro e w' ⟨rfl, x, rfl⟩))
      refine bodyPost_ret (v := .tuple #[.agg #[.int .i64 m.a, .int .i64 m.b, .int .i64 m.c], .bool v]) (by simp [results, Tryz.results123, go_sem]) rfl ⟨rfl, ?_⟩
      (repeat (first | exact bR | refine bO ?_ | refine bA ?_ | refine bS ?_ | refine bD ?_ | refine bN ?_))
    · rw [if_neg (fun h => h5 h.2)] at h'
      simp at h'
      obtain ⟨rfl, rfl⟩ := h'
      go_enter Tryz.func123, Tryz.ntmps123
      go_wp2_with ((go_at_call 100; (first | (with_reducible refine (calls_ov2 (spec_RatioOk_eq ho (by omega) (by omega))).mono ?_) | refine (calls_ov (spec_RatioOk_eq ho (by omega) (by omega))).mono ?_); rintro e w' ⟨rfl, x, rfl⟩))
      refine bodyPost_ret (v := .tuple #[.agg #[.int .i64 0, .int .i64 0, .int .i64 0], .bool false]) (by simp [results, Tryz.results123, go_sem]) rfl ⟨rfl, ?_⟩
      (repeat (first | exact bR | refine bO ?_ | refine bA ?_ | refine bS ?_ | refine bD ?_ | refine bN ?_))

set_option maxRecDepth 100000 in
set_option maxHeartbeats 8000000 in
theorem spec_ErodeRegion_eq {hs ws out : List H3} {ok : Bool} {A Am : Option Addr} {c cm : Nat} {w : World} (R : R3 99 w A c hs) (hl : hs.length ≤ 1000000000) (RW : R3 99 w Am cm ws) (hlw : ws.length ≤ 1000000000) (hr : Hid (erodeR hs ws = (out, ok))) :
    Calls Tryz.prog 71 #[.agg #[.slice A hs.length c], .agg #[.slice Am ws.length cm]] w (RegPost w out ok) := by
  have hr' := hr.out
  clear hr
  obtain ⟨rk, hrk⟩ : ∃ v, regionOk hs = v := ⟨_, rfl⟩
  obtain ⟨wk, hwk⟩ : ∃ v, regionOk ws = v := ⟨_, rfl⟩
  obtain ⟨vk, hvk⟩ : ∃ v, decide (ws.length = 0) = v := ⟨_, rfl⟩
  have HRK := Lib.hid hrk
  have HWK := Lib.hid hwk
  have HVK := Lib.hid hvk
  have hne : vk = false ↔ ws ≠ [] := by rw [← hvk, decide_eq_false_iff_not]; exact ⟨fun h e => h (by rw [e]; rfl), fun h e => h (List.length_eq_zero_iff.1 e)⟩
  unfold erodeR at hr'
  rw [hrk, hwk] at hr'
  by_cases hall : vk = false ∧ rk = true ∧ wk = true
  case neg =>
    have hno : ¬ (ws ≠ [] ∧ rk = true ∧ wk = true) := fun h => hall ⟨hne.2 h.1, h.2⟩
    rw [if_neg hno] at hr'
    simp at hr'
    obtain ⟨rfl, rfl⟩ := hr'
    have hc : rk = false ∨ (rk = true ∧ wk = false) ∨ (rk = true ∧ wk = true ∧ vk = true) := by cases vk <;> cases rk <;> cases wk <;> simp at hall ⊢
    clear hall hno hrk hwk hvk hne
    rcases hc with rfl | ⟨rfl, rfl⟩ | ⟨rfl, rfl, rfl⟩
    all_goals
      go_enter Tryz.func71, Tryz.ntmps71
      go_wp2_with (first | (go_at_call 56; (first | (with_reducible refine (calls_ov2 (spec_RegionOk_eq (by first | exact R.below (by repeat (first | exact bR | refine bO ?_ | refine bA ?_ | refine bS ?_ | refine bD ?_ | refine bN ?_)) | exact RW.below (by repeat (first | exact bR | refine bO ?_ | refine bA ?_ | refine bS ?_ | refine bD ?_ | refine bN ?_))) (by omega) (by first | exact HRK | exact HWK))).mono ?_) | refine (calls_ov (spec_RegionOk_eq (by first | exact R.below (by repeat (first | exact bR | refine bO ?_ | refine bA ?_ | refine bS ?_ | refine bD ?_ | refine bN ?_)) | exact RW.below (by repeat (first | exact bR | refine bO ?_ | refine bA ?_ | refine bS ?_ | refine bD ?_ | refine bN ?_))) (by omega) (by first | exact HRK | exact HWK))).mono ?_); rintro e w' ⟨rfl, x, rfl⟩) | (go_at_call 77; (first | (with_reducible refine (calls_ov2 (spec_IsVoid_eq HVK)).mono ?_) | refine (calls_ov (spec_IsVoid_eq HVK)).mono ?_); rintro e w' ⟨rfl, x, rfl⟩))
      refine bodyPost_ret (v := .tuple #[.agg #[.slice none 0 0], .bool false]) (by simp [results, Tryz.results71, go_sem]) rfl ⟨none, 0, rfl, RB.nil _ _ _, (by repeat (first | exact bR | refine bO ?_ | refine bA ?_ | refine bS ?_ | refine bD ?_ | refine bN ?_))⟩
  obtain ⟨rfl, rfl, rfl⟩ := hall
  have hw := hne.1 rfl
  rw [if_pos ⟨hw, rfl, rfl⟩] at hr'
  have hG : (∀ g ∈ hs, HOk g) ∧ hs.length ≤ 40 := region_good hrk
  obtain ⟨G, h40⟩ := hG
  have hr : Hid (movedF (erF ws) hs = (out, ok)) := Lib.hid hr'
  clear hr' hrk hne hvk hwk
  obtain ⟨i0, hi, hz0, hz1, hz2⟩ := info_parts info_half
  obtain ⟨FX, hFX⟩ : ∃ FX, FX = erF ws := ⟨_, rfl⟩
  rw [← hFX] at hr
  obtain ⟨ms, hms⟩ : ∃ ms, hs.map (fun g => (FX g).1) = ms := ⟨_, rfl⟩
  have hml : ms.length = hs.length := by rw [← hms]; simp
  have hmk : ∀ k (h : k < hs.length), ms[k]? = some (FX hs[k]).1 := fun k h => by rw [← hms, List.getElem?_map, List.getElem?_eq_getElem h]; rfl
  have HR := hr.out
  unfold movedF at HR
  rw [hms] at HR
  have HM := Lib.hid HR
  have HML := Lib.hid hml
  have HMK := Lib.hid hmk
  have HMS := Lib.hid hms
  have HF := Lib.hid hFX
  clear hr HR hms hml hmk hFX
  go_enter Tryz.func71, Tryz.ntmps71
  go_wp2_with (first | (go_at_call 56; (first | (with_reducible refine (calls_ov2 (spec_RegionOk_eq (by first | exact R.below (by repeat (first | exact bR | refine bO ?_ | refine bA ?_ | refine bS ?_ | refine bD ?_ | refine bN ?_)) | exact RW.below (by repeat (first | exact bR | refine bO ?_ | refine bA ?_ | refine bS ?_ | refine bD ?_ | refine bN ?_))) (by omega) (by first | exact HRK | exact HWK))).mono ?_) | refine (calls_ov (spec_RegionOk_eq (by first | exact R.below (by repeat (first | exact bR | refine bO ?_ | refine bA ?_ | refine bS ?_ | refine bD ?_ | refine bN ?_)) | exact RW.below (by repeat (first | exact bR | refine bO ?_ | refine bA ?_ | refine bS ?_ | refine bD ?_ | refine bN ?_))) (by omega) (by first | exact HRK | exact HWK))).mono ?_); rintro e w' ⟨rfl, x, rfl⟩) | (go_at_call 77; (first | (with_reducible refine (calls_ov2 (spec_IsVoid_eq HVK)).mono ?_) | refine (calls_ov (spec_IsVoid_eq HVK)).mono ?_); rintro e w' ⟨rfl, x, rfl⟩))
  obtain ⟨W0, hW⟩ : ∃ W0, W0 = ov (((w.alloc (.cells #[.slice A hs.length c] 37)).alloc (.cells #[.slice Am ws.length cm] 37)).alloc (.cells #[.slice none 0 0] 37)) x := ⟨_, rfl⟩
  rw [← hW]
  have T0 : Below w.heap.size w W0 := by rw [hW]; exact (by repeat (first | exact bR | refine bO ?_ | refine bA ?_ | refine bS ?_ | refine bD ?_ | refine bN ?_))
  have X2 := Lib.hid (show W0.heap[w.heap.size + 1 + 1]? = some (.cells #[.slice none 0 0] 37 (0, 0)) by rw [hW]; exact ov_blk (heap_new_at (by simp) rfl))
  have X1 := Lib.hid (show W0.heap[w.heap.size + 1]? = some (.cells #[.slice Am ws.length cm] 37 (0, 0)) by rw [hW]; exact ov_blk ((heap_old_at (by simp)).trans (heap_new_at (by simp) rfl)))
  clear hW
  have t0 := T0.size
  have hb2 : w.heap.size ≤ w.heap.size + 1 + 1 := by omega
  generalize w.heap.size + 1 + 1 = b2 at X2 hb2 ⊢
  generalize w.heap.size + 1 = b1 at X1 ⊢
  have RH := R.below T0
  have RW0 := RW.below T0
  go_loopw [6, 32] (fun o i wr => ∃ (k : Nat) (A' : Option Addr) (c' : Nat), k ≤ hs.length ∧ i = .int .i64 k ∧ o = .slice A' k c' ∧ Hid ((hs.take k).all (fun g => (FX g).2) = true) ∧ RB W0.heap.size 99 wr A' c' (ms.take k) ∧ Below W0.heap.size W0 wr) (fun _ i _ => hs.length - (intOf i).toNat)
  case atStart => exact ⟨0, some ⟨W0.heap.size, 0, none⟩, 0, Nat.zero_le _, rfl, rfl, Lib.hid rfl, RB.new0 rfl (Nat.le_refl _) rfl, (Below.refl _ _).alloc (Nat.le_refl _) _⟩
  case round =>
    obtain ⟨k, A', c', hk, rfl, rfl, HA, RO, hb⟩ := hrel
    have hbs := hb.size
    have htl : (ms.take k).length = k := by have := HML.out; simp; omega
    have T1 := T0.trans (hb.mono t0)
    have t1 := T1.size
    have X3 := box_below X2 hb
    have hX2 := (Array.getElem?_eq_some_iff.1 X3.out).1
    have X5 := box_below X1 hb
    have hX1 := (Array.getElem?_eq_some_iff.1 X5.out).1
    have w1 := cell_blk (j := 0) (v := .slice Am ws.length cm) X5.out rfl
    have RWr := RW0.below hb
    by_cases hlt : k < hs.length
    · obtain ⟨g0, rfl, hg0, z0, z1, z2⟩ := (RH.below hb).at_ hlt
      have kg := G _ (List.getElem_mem hlt)
      have h1 := kg.ba
      have h2 := kg.bb
      have h3 := kg.bc
      obtain ⟨⟨p, q⟩, hpq⟩ : ∃ s, supN hs[k].a hs[k].b ws = s := ⟨_, rfl⟩
      obtain ⟨kb, hkb⟩ : ∃ s, farB (valsL hs[k].a hs[k].b ws) = s := ⟨_, rfl⟩
      have HFR := Lib.hid (fun W (R : R3 99 W Am cm ws) => l06Far_eq HWK.out kg.ba kg.bb R (Lib.hid hpq) (Lib.hid hkb))
      obtain ⟨ho1, hq, hp⟩ := sup_fr HWK.out hw kg.ba kg.bb hpq
      obtain ⟨ho2, b1', b2'⟩ := ok_shift ho1 h3 hq.2 hp
      have HRO := Lib.hid (show ratOf (hs[k].c * q + -p * 1) (1 * q) = (hs[k].c * q - p, q) by rw [show hs[k].c * q + -p * 1 = hs[k].c * q - p by omega, Int.one_mul]; exact ratOf_same ho2)
      have SB : SumBd hs[k].c 1 (-p) q := ⟨by omega, hq, ⟨b1', b2'⟩, by omega, by omega⟩
      have HTO := Lib.hid (erF_top HWK.out hw kg hpq)
      have HE := Lib.hid (HMK.out k hlt)
      have HT := Lib.hid (all_take_succ (fun g => (FX g).2) hs k hlt)
      obtain ⟨⟨m, b⟩, hmb⟩ : ∃ m, FX hs[k] = m := ⟨_, rfl⟩
      have hmb' := hmb
      rw [HF.out] at hmb'
      have HS : Hid (topF hs[k].a hs[k].b (hs[k].c * q - p) q = (m, b)) := Lib.hid (by rw [← HTO.out]; exact hmb')
      clear hpq hkb ho1
      have HN := Lib.hid (show ms.take (k + 1) = ms.take k ++ [m] by
        obtain ⟨h1, h2⟩ := List.getElem?_eq_some_iff.1 HE.out
        rw [List.take_succ_eq_append_getElem h1, h2, hmb])
      have HB := Lib.hid (show (FX hs[k]).2 = b by rw [hmb])
      clear hmb hmb' HE
      have OV : wr.ownsRow W0.heap.size 99 3 (.slice A' k c') k (cells3 (ms.take k)) := by unfold RB at RO; rw [htl] at RO; exact RO
      cases b with
      | true =>
        go_wp2_with (first | (go_at_call 122; (first | (with_reducible refine (calls_ov2 (HFR.out _ (RWr.below (by repeat (first | exact bR | refine bO ?_ | refine bA ?_ | refine bS ?_ | refine bD ?_ | refine bN ?_))))).mono ?_) | refine (calls_ov (HFR.out _ (RWr.below (by repeat (first | exact bR | refine bO ?_ | refine bA ?_ | refine bS ?_ | refine bD ?_ | refine bN ?_))))).mono ?_); rintro e w' ⟨rfl, x, rfl⟩) | (go_at_call 98; (first | (with_reducible refine (calls_ov2 (l06Sum_eq SB HRO ho2)).mono ?_) | refine (calls_ov (l06Sum_eq SB HRO ho2)).mono ?_); rintro e w' ⟨rfl, x, rfl⟩) | (go_at_call 123; (first | (with_reducible refine (calls_ov2 (l07Top_eq HS h1 h2 (by omega) (by omega))).mono ?_) | refine (calls_ov (l07Top_eq HS h1 h2 (by omega) (by omega))).mono ?_); rintro e w' ⟨rfl, x, rfl⟩) | (at_builtin; refine wpList_append_own _ rfl _ _ 35 rfl W0.heap.size 99 i0 (.agg #[.int .i64 0, .int .i64 0, .int .i64 0]) 3 24 Tryz.underlying35 hi hz0 hz1 hz2 rfl (by decide) _ _ _ rfl (OV.below' (by repeat (first | exact bR | refine bO ?_ | refine bA ?_ | refine bS ?_ | refine bD ?_ | refine bN ?_))) ⟨_, 0, none⟩ 1 1 (cells3 [m]) rfl rfl (news_at (heap_new_at (by simp) rfl)) (cells3_one _) (by unfold maxLen; omega) (by omega) (by simp [ov_size]; omega) ?_; intro v2 w2 O2 hg2 _; obtain ⟨A5, c5, rfl, RO5⟩ := own_slice2 HN.out htl O2; have HG := Lib.hid hg2; clear hg2 O2))
        go_roundw
        case rel => exact ⟨k + 1, A5, c5, by omega, by go_num, by go_num, Lib.hid (by rw [HT.out, HA.out, HB.out]; rfl), RO5, grown_below (B := W0.heap.size) (by repeat (first | exact hb | refine bO ?_ | refine bA ?_ | refine bS ?_ | refine bD ?_ | refine bN ?_)) HG.out (fun k' hk' => (OV.lt k' hk').1) (Nat.le_refl _)⟩
        case measure => simp [intOf] <;> omega
      | false =>
        have hr0 := HM.out
        have hne : hs ≠ [] := fun e => by rw [e] at hlt; cases hlt
        have hall : hs.all (fun g => (FX g).2) = false := by
          rw [List.all_eq_false]
          exact ⟨hs[k], List.getElem_mem hlt, by rw [HB.out]; simp⟩
        rw [if_neg hne, if_neg (by rw [hall]; simp)] at hr0
        simp at hr0
        obtain ⟨rfl, rfl⟩ := hr0
        clear hall hne
        go_wp2_with (first | (go_at_call 122; (first | (with_reducible refine (calls_ov2 (HFR.out _ (RWr.below (by repeat (first | exact bR | refine bO ?_ | refine bA ?_ | refine bS ?_ | refine bD ?_ | refine bN ?_))))).mono ?_) | refine (calls_ov (HFR.out _ (RWr.below (by repeat (first | exact bR | refine bO ?_ | refine bA ?_ | refine bS ?_ | refine bD ?_ | refine bN ?_))))).mono ?_); rintro e w' ⟨rfl, x, rfl⟩) | (go_at_call 98; (first | (with_reducible refine (calls_ov2 (l06Sum_eq SB HRO ho2)).mono ?_) | refine (calls_ov (l06Sum_eq SB HRO ho2)).mono ?_); rintro e w' ⟨rfl, x, rfl⟩))
        refine (calls_ov (l07Top_eq HS h1 h2 (by omega) (by omega))).mono ?_
        rintro e w' ⟨rfl, x9, rfl⟩
        generalize hWz : ov _ x9 = Wz
        have TZ : Below wr.heap.size wr Wz := by rw [← hWz]; exact (by repeat (first | exact bR | refine bO ?_ | refine bA ?_ | refine bS ?_ | refine bD ?_ | refine bN ?_))
        replace X3 := box_below X3 TZ
        replace T1 := T1.trans (TZ.mono t1)
        have hX2 := (Array.getElem?_eq_some_iff.1 X3.out).1
        have x2 := cell_blk (j := 0) (v := .slice none 0 0) X3.out rfl
        have f2 := frozen_blk (j := 0) X3.out
        clear hWz TZ
        go_wp2
        refine bodyPost_ret (v := .tuple #[.agg #[.slice none 0 0], .bool false]) (by simp [results, Tryz.results71, go_sem, x2, hX2]) rfl ⟨none, 0, rfl, RB.nil _ _ _, ?_⟩
        exact (by repeat (first | exact T1 | refine bO ?_ | refine bA ?_ | refine bS ?_ | refine bD ?_ | refine bN ?_))
    · obtain rfl : k = hs.length := by omega
      have hfull : ms.take hs.length = ms := by rw [← HML.out, List.take_length]
      rw [hfull] at RO
      have hall := HA.out
      rw [List.take_length] at hall
      have HL := HML.out
      by_cases h0 : hs.length = 0
      · have hr0 := HM.out
        rw [if_pos (List.length_eq_zero_iff.1 h0)] at hr0
        simp at hr0
        obtain ⟨rfl, rfl⟩ := hr0
        have hz : ((hs.length : Int) == 0) = true := by rw [h0]; rfl
        have x2 := cell_blk (j := 0) (v := .slice none 0 0) X3.out rfl
        have f2 := frozen_blk (j := 0) X3.out
        clear h0 HL hall
        go_wp2
        refine bodyPost_ret (v := .tuple #[.agg #[.slice none 0 0], .bool true]) (by simp [results, Tryz.results71, go_sem, x2, hX2]) rfl ⟨none, 0, rfl, RB.nil _ _ _, ?_⟩
        exact (by repeat (first | exact T1 | refine bO ?_ | refine bA ?_ | refine bS ?_ | refine bD ?_ | refine bN ?_))
      · have hr0 := HM.out
        rw [if_neg (fun e => h0 (by rw [e]; rfl)), if_pos hall] at hr0
        have HM2 := Lib.hid hr0
        have GM : ∀ g ∈ ms, HOk g := fun g hg => by
          rw [← HMS.out] at hg
          obtain ⟨y, hy, rfl⟩ := List.mem_map.1 hg
          have h2 := List.all_eq_true.1 hall y hy
          rw [HF.out] at h2 ⊢
          exact halfOf_ok rfl h2
        have hz : ((hs.length : Int) == 0) = false := beq_eq_false_iff_ne.2 (by omega)
        have hz' : ¬ ((hs.length : Int) = 0) := by omega
        clear hr0 hall
        go_wp2_with fail
        refine (l05Fit_eqn (n := hs.length) HL GM RO.r3 (by omega) HM2).mono ?_
        rintro e w2 ⟨A2', c2', rfl, R2', hb2'⟩
        have T2 : Below w.heap.size w w2 := T1.trans (hb2'.mono T1.size)
        have X4 := box_below X3 hb2'
        have HR1 := R2'.weak (B' := w.heap.size) T1.size
        clear X3 X2 hb2' R2' RO hX2
        have x2 := cell_blk (j := 0) (v := .slice none 0 0) X4.out rfl
        have f2 := frozen_blk (j := 0) X4.out
        have l2 := (Array.getElem?_eq_some_iff.1 X4.out).1
        go_wp2
        refine bodyPost_ret (v := .tuple #[.agg #[.slice A2' out.length c2'], .bool ok]) (by simp [results, Tryz.results71, go_sem, x2, l2]) rfl ⟨A2', c2', rfl, HR1.set_box X4.out (by decide), T2.setCell (show w.heap.size ≤ b2 from hb2) _⟩
end Go.Proofs.YtgdleimdenbnlaaGreat
