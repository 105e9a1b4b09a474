/- Contracts of MeetSpans in the program and in the reference: both return the same span. Condition: the numbers are ints. -/
import Derived.Test.YtfbfaidblggceaaRm
import Derived.Test.YtfbfaidblggceaaFs
set_option linter.unusedSimpArgs false
set_option linter.unusedVariables false
set_option linter.unusedSectionVars false
namespace Go.Proofs.Ytfbfaidblggceaa
open Go.RowKit Go.Lib

def meetS (n d m e n' d' m' e' : Int) : Int × Int × Int × Int × Bool :=
  if spanOk n d m e = true ∧ spanOk n' d' m' e' = true ∧ spanOk (ratMax n d n' d').1 (ratMax n d n' d').2 (ratMin m e m' e').1 (ratMin m e m' e').2 = true then
    ((ratMax n d n' d').1, (ratMax n d n' d').2, (ratMin m e m' e').1, (ratMin m e m' e').2, true) else (0, 0, 0, 0, false)
theorem spanOk_both {n d m e : Int} (h : spanOk n d m e = true) : ratioOk n d = true ∧ ratioOk m e = true := by
  simp only [spanOk, Bool.and_eq_true] at h; exact h.1

theorem ret_span {a b c d a' b' c' d' : Int} {x x' : Bool} (h : (a, b, c, d, x) = (a', b', c', d', x')) :
    Ending.returned (.tuple #[.agg #[.int .i64 a, .int .i64 b, .int .i64 c, .int .i64 d], .bool x]) = .returned (.tuple #[.agg #[.int .i64 a', .int .i64 b', .int .i64 c', .int .i64 d'], .bool x']) := by
  simp only [Prod.mk.injEq] at h
  obtain ⟨rfl, rfl, rfl, rfl, rfl⟩ := h
  rfl

section
variable {n d m e n' d' m' e' : Int}
set_option maxHeartbeats 4000000 in
theorem impl_MeetSpans_eq {w : World} {r0 r1 r2 r3 : Int} {rb : Bool} (hn : -9223372036854775808 ≤ n ∧ n ≤ 9223372036854775807) (hd : -9223372036854775808 ≤ d ∧ d ≤ 9223372036854775807) (hm : -9223372036854775808 ≤ m ∧ m ≤ 9223372036854775807) (he : -9223372036854775808 ≤ e ∧ e ≤ 9223372036854775807)
    (hn' : -9223372036854775808 ≤ n' ∧ n' ≤ 9223372036854775807) (hd' : -9223372036854775808 ≤ d' ∧ d' ≤ 9223372036854775807) (hm' : -9223372036854775808 ≤ m' ∧ m' ≤ 9223372036854775807) (he' : -9223372036854775808 ≤ e' ∧ e' ≤ 9223372036854775807)
    (hr : Hid (meetS n d m e n' d' m' e' = (r0, r1, r2, r3, rb))) :
    Calls Try.prog 11 #[.agg #[.int .i64 n, .int .i64 d, .int .i64 m, .int .i64 e], .agg #[.int .i64 n', .int .i64 d', .int .i64 m', .int .i64 e']] w
      fun en w' => en = .returned (.tuple #[.agg #[.int .i64 r0, .int .i64 r1, .int .i64 r2, .int .i64 r3], .bool rb]) ∧ Below w.heap.size w w' := by
  rcases chain2 (spanOk n d m e) (spanOk n' d' m' e') with h1 | ⟨h1, h2⟩ | ⟨h1, h2⟩
  · have HR := Lib.hid (show (0, 0, 0, 0, false) = (r0, r1, r2, r3, rb) by rw [← hr.out]; unfold meetS; rw [if_neg (by rw [h1]; simp)])
    go_enter Try.func11, Try.ntmps11
    go_wp2_with (first | (go_at_call 17; refine (calls_ov (impl_SpanOk_eq (by assumption) (by omega) (by omega) (by omega) (by omega))).mono ?_; rintro e w' ⟨rfl, x, rfl⟩))
    refine bodyPost_ret (v := .tuple #[.agg #[.int .i64 0, .int .i64 0, .int .i64 0, .int .i64 0], .bool false]) (by simp [results, Try.results11, go_sem]) rfl ⟨ret_span HR.out, ?_⟩
    (repeat (first | exact bR | refine bO ?_ | refine bA ?_ | refine bS ?_ | refine bD ?_ | refine bN ?_))
  · have HR := Lib.hid (show (0, 0, 0, 0, false) = (r0, r1, r2, r3, rb) by rw [← hr.out]; unfold meetS; rw [if_neg (by rw [h2]; simp)])
    go_enter Try.func11, Try.ntmps11
    go_wp2_with (first | (go_at_call 17; refine (calls_ov (impl_SpanOk_eq (by assumption) (by omega) (by omega) (by omega) (by omega))).mono ?_; rintro e w' ⟨rfl, x, rfl⟩))
    refine bodyPost_ret (v := .tuple #[.agg #[.int .i64 0, .int .i64 0, .int .i64 0, .int .i64 0], .bool false]) (by simp [results, Try.results11, go_sem]) rfl ⟨ret_span HR.out, ?_⟩
    (repeat (first | exact bR | refine bO ?_ | refine bA ?_ | refine bS ?_ | refine bD ?_ | refine bN ?_))
  · have o1 := spanOk_both h1
    have o2 := spanOk_both h2
    obtain ⟨o1a, o1b⟩ := o1
    obtain ⟨o2a, o2b⟩ := o2
    have L := ratMax_ok o1a o2a
    have U := ratMin_ok o1b o2b
    obtain ⟨⟨l1, l2⟩, hl⟩ : ∃ z, ratMax n d n' d' = z := ⟨_, rfl⟩
    obtain ⟨⟨u1, u2⟩, hu⟩ : ∃ z, ratMin m e m' e' = z := ⟨_, rfl⟩
    have HL := Lib.hid hl
    have HU := Lib.hid hu
    rw [hl] at L
    rw [hu] at U
    have bl := ratioOk_bd L
    have bu := ratioOk_bd U
    simp only at bl bu L U
    have hr' := hr.out
    unfold meetS at hr'
    rw [hl, hu] at hr'
    clear hl hu
    cases h3 : spanOk l1 l2 u1 u2 with
    | false =>
      have HR := Lib.hid (show (0, 0, 0, 0, false) = (r0, r1, r2, r3, rb) by rw [← hr', if_neg (by simp only [h3]; simp)])
      clear hr' hr
      go_enter Try.func11, Try.ntmps11
      go_wp2_with (first | (go_at_call 17; refine (calls_ov (impl_SpanOk_eq (by assumption) (by omega) (by omega) (by omega) (by omega))).mono ?_; rintro e w' ⟨rfl, x, rfl⟩))
      refine wp_region_calm_alloc' 11 6 _ (.cells #[.int .i64 0, .int .i64 0, .int .i64 0, .int .i64 0] 29 (0, 0)) (by kernel_rfl) (by kernel_rfl) rfl rfl rfl (by simp) (fun a w => by simp [go_sem]) rfl ?_
      apply Exists.intro
      apply And.intro
      · intro x0
        simp only [List.take_succ_cons, List.take_zero]
        (repeat (go_big_quiet_step (first | (go_at_call 33; exact calm_below (impl_RatioMax_eq (by assumption) (by assumption) HL)) | (go_at_call 34; exact calm_below (impl_RatioMin_eq (by assumption) (by assumption) HU)))))
        exact wpQuiet_nil rfl
      intro b x hb hx
      simp only [List.drop_succ_cons, List.drop_zero]
      refine store4 rfl 6 26 rfl rfl rfl hb hx (fun x' hx' => ?_)
      have hb' : w.heap.size + 3 ≤ b := by simp [ov_size] at hb; omega
      clear hx hb
      have g0 := cell_blk (j := 0) hx' rfl
      have g1 := cell_blk (j := 1) hx' rfl
      have g2 := cell_blk (j := 2) hx' rfl
      have g3 := cell_blk (j := 3) hx' rfl
      have hbl := (Array.getElem?_eq_some_iff.1 hx').1
      clear hx'
      go_wp2_with (first | (go_at_call 17; refine (calls_ov (impl_SpanOk_eq (by assumption) (by omega) (by omega) (by omega) (by omega))).mono ?_; rintro e w' ⟨rfl, x, rfl⟩))
      refine bodyPost_ret (v := .tuple #[.agg #[.int .i64 0, .int .i64 0, .int .i64 0, .int .i64 0], .bool false]) (by simp [results, Try.results11, go_sem]) rfl ⟨ret_span HR.out, ?_⟩
      (repeat (first | exact bR | refine bO ?_ | refine bA ?_ | refine bS ?_ | refine bD ?_ | refine bN ?_))
    | true =>
      have HR := Lib.hid (show (l1, l2, u1, u2, true) = (r0, r1, r2, r3, rb) by rw [← hr', if_pos ⟨h1, h2, h3⟩])
      clear hr' hr
      go_enter Try.func11, Try.ntmps11
      go_wp2_with (first | (go_at_call 17; refine (calls_ov (impl_SpanOk_eq (by assumption) (by omega) (by omega) (by omega) (by omega))).mono ?_; rintro e w' ⟨rfl, x, rfl⟩))
      refine wp_region_calm_alloc' 11 6 _ (.cells #[.int .i64 0, .int .i64 0, .int .i64 0, .int .i64 0] 29 (0, 0)) (by kernel_rfl) (by kernel_rfl) rfl rfl rfl (by simp) (fun a w => by simp [go_sem]) rfl ?_
      apply Exists.intro
      apply And.intro
      · intro x0
        simp only [List.take_succ_cons, List.take_zero]
        (repeat (go_big_quiet_step (first | (go_at_call 33; exact calm_below (impl_RatioMax_eq (by assumption) (by assumption) HL)) | (go_at_call 34; exact calm_below (impl_RatioMin_eq (by assumption) (by assumption) HU)))))
        exact wpQuiet_nil rfl
      intro b x hb hx
      simp only [List.drop_succ_cons, List.drop_zero]
      refine store4 rfl 6 26 rfl rfl rfl hb hx (fun x' hx' => ?_)
      have hb' : w.heap.size + 3 ≤ b := by simp [ov_size] at hb; omega
      clear hx hb
      have g0 := cell_blk (j := 0) hx' rfl
      have g1 := cell_blk (j := 1) hx' rfl
      have g2 := cell_blk (j := 2) hx' rfl
      have g3 := cell_blk (j := 3) hx' rfl
      have hbl := (Array.getElem?_eq_some_iff.1 hx').1
      clear hx'
      go_wp2_with (first | (go_at_call 17; refine (calls_ov (impl_SpanOk_eq (by assumption) (by omega) (by omega) (by omega) (by omega))).mono ?_; rintro e w' ⟨rfl, x, rfl⟩))
      refine bodyPost_ret (v := .tuple #[.agg #[.int .i64 l1, .int .i64 l2, .int .i64 u1, .int .i64 u2], .bool true]) (by simp [results, Try.results11, go_sem]) rfl ⟨ret_span HR.out, ?_⟩
      (repeat (first | exact bR | refine bO ?_ | refine bA ?_ | refine bS ?_ | refine bD ?_ | refine bN ?_))
set_option maxHeartbeats 4000000 in
theorem spec_MeetSpans_eq {w : World} {r0 r1 r2 r3 : Int} {rb : Bool} (hn : -9223372036854775808 ≤ n ∧ n ≤ 9223372036854775807) (hd : -9223372036854775808 ≤ d ∧ d ≤ 9223372036854775807) (hm : -9223372036854775808 ≤ m ∧ m ≤ 9223372036854775807) (he : -9223372036854775808 ≤ e ∧ e ≤ 9223372036854775807)
    (hn' : -9223372036854775808 ≤ n' ∧ n' ≤ 9223372036854775807) (hd' : -9223372036854775808 ≤ d' ∧ d' ≤ 9223372036854775807) (hm' : -9223372036854775808 ≤ m' ∧ m' ≤ 9223372036854775807) (he' : -9223372036854775808 ≤ e' ∧ e' ≤ 9223372036854775807)
    (hr : Hid (meetS n d m e n' d' m' e' = (r0, r1, r2, r3, rb))) :
    Calls Try.prog 10 #[.agg #[.int .i64 n, .int .i64 d, .int .i64 m, .int .i64 e], .agg #[.int .i64 n', .int .i64 d', .int .i64 m', .int .i64 e']] w
      fun en w' => en = .returned (.tuple #[.agg #[.int .i64 r0, .int .i64 r1, .int .i64 r2, .int .i64 r3], .bool rb]) ∧ Below w.heap.size w w' := by
  rcases chain2 (spanOk n d m e) (spanOk n' d' m' e') with h1 | ⟨h1, h2⟩ | ⟨h1, h2⟩
  · have HR := Lib.hid (show (0, 0, 0, 0, false) = (r0, r1, r2, r3, rb) by rw [← hr.out]; unfold meetS; rw [if_neg (by rw [h1]; simp)])
    go_enter Try.func10, Try.ntmps10
    go_wp2_with (first | (go_at_call 22; refine (calls_ov (spec_SpanOk_eq (by assumption) (by omega) (by omega) (by omega) (by omega))).mono ?_; rintro e w' ⟨rfl, x, rfl⟩))
    refine bodyPost_ret (v := .tuple #[.agg #[.int .i64 0, .int .i64 0, .int .i64 0, .int .i64 0], .bool false]) (by simp [results, Try.results10, go_sem]) rfl ⟨ret_span HR.out, ?_⟩
    (repeat (first | exact bR | refine bO ?_ | refine bA ?_ | refine bS ?_ | refine bD ?_ | refine bN ?_))
  · have HR := Lib.hid (show (0, 0, 0, 0, false) = (r0, r1, r2, r3, rb) by rw [← hr.out]; unfold meetS; rw [if_neg (by rw [h2]; simp)])
    go_enter Try.func10, Try.ntmps10
    go_wp2_with (first | (go_at_call 22; refine (calls_ov (spec_SpanOk_eq (by assumption) (by omega) (by omega) (by omega) (by omega))).mono ?_; rintro e w' ⟨rfl, x, rfl⟩))
    refine bodyPost_ret (v := .tuple #[.agg #[.int .i64 0, .int .i64 0, .int .i64 0, .int .i64 0], .bool false]) (by simp [results, Try.results10, go_sem]) rfl ⟨ret_span HR.out, ?_⟩
    (repeat (first | exact bR | refine bO ?_ | refine bA ?_ | refine bS ?_ | refine bD ?_ | refine bN ?_))
  · have o1 := spanOk_both h1
    have o2 := spanOk_both h2
    obtain ⟨o1a, o1b⟩ := o1
    obtain ⟨o2a, o2b⟩ := o2
    have L := ratMax_ok o1a o2a
    have U := ratMin_ok o1b o2b
    obtain ⟨⟨l1, l2⟩, hl⟩ : ∃ z, ratMax n d n' d' = z := ⟨_, rfl⟩
    obtain ⟨⟨u1, u2⟩, hu⟩ : ∃ z, ratMin m e m' e' = z := ⟨_, rfl⟩
    have HL := Lib.hid hl
    have HU := Lib.hid hu
    rw [hl] at L
    rw [hu] at U
    have bl := ratioOk_bd L
    have bu := ratioOk_bd U
    simp only at bl bu L U
    have hr' := hr.out
    unfold meetS at hr'
    rw [hl, hu] at hr'
    clear hl hu
    cases h3 : spanOk l1 l2 u1 u2 with
    | false =>
      have HR := Lib.hid (show (0, 0, 0, 0, false) = (r0, r1, r2, r3, rb) by rw [← hr', if_neg (by simp only [h3]; simp)])
      clear hr' hr
      go_enter Try.func10, Try.ntmps10
      go_wp2_with (first | (go_at_call 22; refine (calls_ov (spec_SpanOk_eq (by assumption) (by omega) (by omega) (by omega) (by omega))).mono ?_; rintro e w' ⟨rfl, x, rfl⟩))
      refine wp_region_calm_alloc' 11 6 _ (.cells #[.int .i64 0, .int .i64 0, .int .i64 0, .int .i64 0] 29 (0, 0)) (by kernel_rfl) (by kernel_rfl) rfl rfl rfl (by simp) (fun a w => by simp [go_sem]) rfl ?_
      apply Exists.intro
      apply And.intro
      · intro x0
        simp only [List.take_succ_cons, List.take_zero]
        (repeat (go_big_quiet_step (first | (go_at_call 31; exact calm_below (spec_RatioMax_eq (by assumption) (by assumption) HL)) | (go_at_call 32; exact calm_below (spec_RatioMin_eq (by assumption) (by assumption) HU)))))
        exact wpQuiet_nil rfl
      intro b x hb hx
      simp only [List.drop_succ_cons, List.drop_zero]
      refine store4 rfl 6 26 rfl rfl rfl hb hx (fun x' hx' => ?_)
      have hb' : w.heap.size + 3 ≤ b := by simp [ov_size] at hb; omega
      clear hx hb
      have g0 := cell_blk (j := 0) hx' rfl
      have g1 := cell_blk (j := 1) hx' rfl
      have g2 := cell_blk (j := 2) hx' rfl
      have g3 := cell_blk (j := 3) hx' rfl
      have hbl := (Array.getElem?_eq_some_iff.1 hx').1
      clear hx'
      go_wp2_with (first | (go_at_call 22; refine (calls_ov (spec_SpanOk_eq (by assumption) (by omega) (by omega) (by omega) (by omega))).mono ?_; rintro e w' ⟨rfl, x, rfl⟩))
      refine bodyPost_ret (v := .tuple #[.agg #[.int .i64 0, .int .i64 0, .int .i64 0, .int .i64 0], .bool false]) (by simp [results, Try.results10, go_sem]) rfl ⟨ret_span HR.out, ?_⟩
      (repeat (first | exact bR | refine bO ?_ | refine bA ?_ | refine bS ?_ | refine bD ?_ | refine bN ?_))
    | true =>
      have HR := Lib.hid (show (l1, l2, u1, u2, true) = (r0, r1, r2, r3, rb) by rw [← hr', if_pos ⟨h1, h2, h3⟩])
      clear hr' hr
      go_enter Try.func10, Try.ntmps10
      go_wp2_with (first | (go_at_call 22; refine (calls_ov (spec_SpanOk_eq (by assumption) (by omega) (by omega) (by omega) (by omega))).mono ?_; rintro e w' ⟨rfl, x, rfl⟩))
      refine wp_region_calm_alloc' 11 6 _ (.cells #[.int .i64 0, .int .i64 0, .int .i64 0, .int .i64 0] 29 (0, 0)) (by kernel_rfl) (by kernel_rfl) rfl rfl rfl (by simp) (fun a w => by simp [go_sem]) rfl ?_
      apply Exists.intro
      apply And.intro
      · intro x0
        simp only [List.take_succ_cons, List.take_zero]
        (repeat (go_big_quiet_step (first | (go_at_call 31; exact calm_below (spec_RatioMax_eq (by assumption) (by assumption) HL)) | (go_at_call 32; exact calm_below (spec_RatioMin_eq (by assumption) (by assumption) HU)))))
        exact wpQuiet_nil rfl
      intro b x hb hx
      simp only [List.drop_succ_cons, List.drop_zero]
      refine store4 rfl 6 26 rfl rfl rfl hb hx (fun x' hx' => ?_)
      have hb' : w.heap.size + 3 ≤ b := by simp [ov_size] at hb; omega
      clear hx hb
      have g0 := cell_blk (j := 0) hx' rfl
      have g1 := cell_blk (j := 1) hx' rfl
      have g2 := cell_blk (j := 2) hx' rfl
      have g3 := cell_blk (j := 3) hx' rfl
      have hbl := (Array.getElem?_eq_some_iff.1 hx').1
      clear hx'
      go_wp2_with (first | (go_at_call 22; refine (calls_ov (spec_SpanOk_eq (by assumption) (by omega) (by omega) (by omega) (by omega))).mono ?_; rintro e w' ⟨rfl, x, rfl⟩))
      refine bodyPost_ret (v := .tuple #[.agg #[.int .i64 l1, .int .i64 l2, .int .i64 u1, .int .i64 u2], .bool true]) (by simp [results, Try.results10, go_sem]) rfl ⟨ret_span HR.out, ?_⟩
      (repeat (first | exact bR | refine bO ?_ | refine bA ?_ | refine bS ?_ | refine bD ?_ | refine bN ?_))
end
end Go.Proofs.Ytfbfaidblggceaa
