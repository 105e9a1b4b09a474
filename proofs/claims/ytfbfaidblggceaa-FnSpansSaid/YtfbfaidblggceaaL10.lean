/- FnSpans returns true for every argument, and leaves it as it was. No condition. -/
import Derived.Test.YtfbfaidblggceaaOb
import Derived.Test.YtfbfaidblggceaaCs
import Derived.Test.YtfbfaidblggceaaSq
set_option linter.unusedVariables false
set_option linter.unusedSimpArgs false
set_option linter.unusedSectionVars false
namespace Go.Proofs.Ytfbfaidblggceaa
open Go.ChangeShapes Go.WideShapes Go.ChangeAt Go.RowKit Go.Joins

theorem box_below {W W' : World} {b : Nat} {o : Obj} (h : Hid (W.heap[b]? = some o)) (K : Below W.heap.size W W') : Hid (W'.heap[b]? = some o) := Lib.hid ((K.block b (Array.getElem?_eq_some_iff.1 h.out).1).trans h.out)
theorem ratOf_one {n : Int} (hn : -1000000000000000000 ≤ n ∧ n ≤ 1000000000000000000) : ratOf n 1 = (n, 1) := by
  have e : gcdL [n, 1] = 1 := by simp [gcdL]
  rw [ratOf_red (a := n) (b := 1) (g := 1) e (by simp) (by simp), if_pos (one_ok hn)]
theorem meet_bd {n d m e n' d' m' e' a b c f : Int} {ok : Bool} (h1 : spanOk n d m e = true) (h2 : spanOk n' d' m' e' = true) (hm : meetS n d m e n' d' m' e' = (a, b, c, f, ok)) :
    (-1000000000000000000 ≤ a ∧ a ≤ 1000000000000000000) ∧ (0 ≤ b ∧ b ≤ 1000000000000000) ∧ (-1000000000000000000 ≤ c ∧ c ≤ 1000000000000000000) ∧ (0 ≤ f ∧ f ≤ 1000000000000000) := by
  have b1 := spanOk_both h1
  have b2 := spanOk_both h2
  have kM := ratioOk_bd (ratMax_ok b1.1 b2.1)
  have km := ratioOk_bd (ratMin_ok b1.2 b2.2)
  unfold meetS at hm
  split at hm <;> (simp only [Prod.mk.injEq] at hm; obtain ⟨rfl, rfl, rfl, rfl, rfl⟩ := hm) <;> omega
theorem inSpan_e {n d m e u v : Int} {b : Bool} {w : World} (h : Hid (inSpan n d m e u v = b)) (hn : -9223372036854775808 ≤ n ∧ n ≤ 9223372036854775807) (hd : -9223372036854775808 ≤ d ∧ d ≤ 9223372036854775807) (hm : -9223372036854775808 ≤ m ∧ m ≤ 9223372036854775807) (he : -9223372036854775808 ≤ e ∧ e ≤ 9223372036854775807) (hu : -9223372036854775808 ≤ u ∧ u ≤ 9223372036854775807) (hv : -9223372036854775808 ≤ v ∧ v ≤ 9223372036854775807) :
    Calls Try.prog 18 #[.agg #[.int .i64 n, .int .i64 d, .int .i64 m, .int .i64 e], .agg #[.int .i64 u, .int .i64 v]] w fun e' w' => e' = .returned (.bool b) ∧ Below w.heap.size w w' := by
  obtain rfl := h.out; exact impl_InSpan_any w hn hd hm he hu hv
theorem spanOk_e {n d m e : Int} {w : World} (h : Hid (spanOk n d m e = true)) (hn : -9223372036854775808 ≤ n ∧ n ≤ 9223372036854775807) (hd : -9223372036854775808 ≤ d ∧ d ≤ 9223372036854775807) (hm : -9223372036854775808 ≤ m ∧ m ≤ 9223372036854775807) (he : -9223372036854775808 ≤ e ∧ e ≤ 9223372036854775807) :
    Calls Try.prog 17 #[.agg #[.int .i64 n, .int .i64 d, .int .i64 m, .int .i64 e]] w fun e' w' => e' = .returned (.bool true) ∧ Below w.heap.size w w' := impl_SpanOk_eq h.out hn hd hm he
theorem whole_e {n d m e z : Int} {w : World} (h : Hid (wholeS n d m e = z)) (hn : -9223372036854775808 ≤ n ∧ n ≤ 9223372036854775807) (hd : -9223372036854775808 ≤ d ∧ d ≤ 9223372036854775807) (hm : -9223372036854775808 ≤ m ∧ m ≤ 9223372036854775807) (he : -9223372036854775808 ≤ e ∧ e ≤ 9223372036854775807) :
    Calls Try.prog 9 #[.agg #[.int .i64 n, .int .i64 d, .int .i64 m, .int .i64 e]] w fun en w' => en = .returned (.int .i64 z) ∧ Below w.heap.size w w' := by
  obtain rfl := h.out; exact impl_WholeInputs_any w hn hd hm he
theorem wholeS_le {n d m e : Int} (h : spanOk n d m e = true) : wholeS n d m e ≤ 2001 := by
  have hb := spanOk_both h
  have hd := ratio_pos hb.1
  have he := ratio_pos hb.2
  unfold wholeS
  split
  · rename_i q
    have c := (ceilF_le (n := n) (z := -1001) hd)
    have f : ¬ 1001 ≤ m / e := fun q1 => by have := (floor_ge (m := m) (z := 1001) he).1 q1; omega
    have c2 : ¬ ceilF n d ≤ -1001 := fun q1 => by have := c.1 q1; omega
    omega
  · omega

set_option maxRecDepth 100000 in
set_option maxHeartbeats 8000000 in
theorem law10_any {bs : List Int} {A : Option Addr} {c : Nat} (w : World) (Rcode : RY w A bs) (hlen : bs.length ≤ 9223372036854775807) :
    Calls Try.prog 5 #[.slice A bs.length c] w fun e w' => e = .returned (.bool true) ∧ Below w.heap.size w w' := by
  by_cases hm : 1048576 < bs.length
  · go_enter Try.func5, Try.ntmps5
    go_wp2
    go_ret
    exact ⟨rfl, (by repeat (first | exact bR | refine bO ?_ | refine bA ?_ | refine bS ?_ | refine bD ?_ | refine bN ?_))⟩
  replace hm : bs.length ≤ 1048576 := by omega
  go_enter Try.func5, Try.ntmps5
  go_wp2_with fail
  obtain ⟨V, hV⟩ : ∃ V, V = w := ⟨_, rfl⟩
  have TV : Below w.heap.size w V := by rw [hV]; exact Below.refl _ _
  have s0 : w.heap.size ≤ V.heap.size := TV.size
  obtain ⟨W0, hW⟩ : ∃ W0, W0 = w := ⟨_, rfl⟩
  rw [← hW]
  have T : Below V.heap.size V W0 := by rw [hW, hV]; exact Below.refl _ _
  clear hW hV
  have Scode := Rcode.below (TV.trans (T.mono s0))
  refine (MakeSpan_any (Scode.below (by repeat (first | exact bR | refine bO ?_ | refine bA ?_ | refine bS ?_ | refine bD ?_ | refine bN ?_))) hm ⟨by omega, by omega⟩).mono ?_
  rintro e W1 ⟨na, da, ma, ea, rfl, oka, ⟨bna, bna'⟩, ⟨bda, bda'⟩, ⟨bma, bma'⟩, ⟨bea, bea'⟩, hb⟩
  have K : Below W0.heap.size W0 W1 := Below.trans (by repeat (first | exact bR | refine bO ?_ | refine bA ?_ | refine bS ?_ | refine bD ?_ | refine bN ?_)) (hb.mono (by first | exact Nat.le_refl _ | simp [ov_size]))
  clear hb
  replace T := T.trans (K.mono T.size)
  clear K Scode
  have Scode := Rcode.below (TV.trans (T.mono s0))
  go_wp2_with fail
  obtain ⟨ba, hbx⟩ : ∃ b, b = W1.heap.size := ⟨_, rfl⟩
  rw [← hbx]
  obtain ⟨W2, hW⟩ : ∃ W, W = W1.alloc (.cells #[.int .i64 na, .int .i64 da, .int .i64 ma, .int .i64 ea] 29) := ⟨_, rfl⟩
  rw [← hW]
  have K : Below W1.heap.size W1 W2 := by rw [hW]; exact (by repeat (first | exact bR | refine bO ?_ | refine bA ?_ | refine bS ?_ | refine bD ?_ | refine bN ?_))
  have Ba := Lib.hid (show W2.heap[ba]? = some (.cells #[.int .i64 na, .int .i64 da, .int .i64 ma, .int .i64 ea] 29 (0, 0)) by rw [hW, hbx]; exact heap_alloc_new _ _)
  clear hW hbx
  replace T := T.trans (K.mono T.size)
  clear K Scode
  have Scode := Rcode.below (TV.trans (T.mono s0))
  refine (MakeSpan_any (Scode.below (by repeat (first | exact bR | refine bO ?_ | refine bA ?_ | refine bS ?_ | refine bD ?_ | refine bN ?_))) hm ⟨by omega, by omega⟩).mono ?_
  rintro e W3 ⟨nb, db, mb, eb, rfl, okb, ⟨bnb, bnb'⟩, ⟨bdb, bdb'⟩, ⟨bmb, bmb'⟩, ⟨beb, beb'⟩, hb⟩
  have K : Below W2.heap.size W2 W3 := Below.trans (by repeat (first | exact bR | refine bO ?_ | refine bA ?_ | refine bS ?_ | refine bD ?_ | refine bN ?_)) (hb.mono (by first | exact Nat.le_refl _ | simp [ov_size]))
  clear hb
  replace T := T.trans (K.mono T.size)
  replace Ba := box_below Ba K
  clear K Scode
  have Scode := Rcode.below (TV.trans (T.mono s0))
  obtain ⟨Bac0, Bac1, Bac2, Bac3, Bal⟩ := cb4 Ba
  go_wp2_with fail
  clear Bac0 Bac1 Bac2 Bac3 Bal
  obtain ⟨bb, hbx⟩ : ∃ b, b = W3.heap.size := ⟨_, rfl⟩
  rw [← hbx]
  obtain ⟨W4, hW⟩ : ∃ W, W = W3.alloc (.cells #[.int .i64 nb, .int .i64 db, .int .i64 mb, .int .i64 eb] 29) := ⟨_, rfl⟩
  rw [← hW]
  have K : Below W3.heap.size W3 W4 := by rw [hW]; exact (by repeat (first | exact bR | refine bO ?_ | refine bA ?_ | refine bS ?_ | refine bD ?_ | refine bN ?_))
  have Bb := Lib.hid (show W4.heap[bb]? = some (.cells #[.int .i64 nb, .int .i64 db, .int .i64 mb, .int .i64 eb] 29 (0, 0)) by rw [hW, hbx]; exact heap_alloc_new _ _)
  clear hW hbx
  replace T := T.trans (K.mono T.size)
  replace Ba := box_below Ba K
  clear K Scode
  have Scode := Rcode.below (TV.trans (T.mono s0))
  refine (MakeRatio_any (Scode.below (by repeat (first | exact bR | refine bO ?_ | refine bA ?_ | refine bS ?_ | refine bD ?_ | refine bN ?_))) hm ⟨by omega, by omega⟩).mono ?_
  rintro e W5 ⟨⟨u, v, rfl, oku, ⟨bu, bu'⟩, ⟨bv, bv'⟩⟩, hb⟩
  have K : Below W4.heap.size W4 W5 := Below.trans (by repeat (first | exact bR | refine bO ?_ | refine bA ?_ | refine bS ?_ | refine bD ?_ | refine bN ?_)) (hb.mono (by first | exact Nat.le_refl _ | simp [ov_size]))
  clear hb
  replace T := T.trans (K.mono T.size)
  replace Ba := box_below Ba K
  replace Bb := box_below Bb K
  clear K Scode
  have Scode := Rcode.below (TV.trans (T.mono s0))
  obtain ⟨Bac0, Bac1, Bac2, Bac3, Bal⟩ := cb4 Ba
  obtain ⟨Bbc0, Bbc1, Bbc2, Bbc3, Bbl⟩ := cb4 Bb
  go_wp2_with fail
  clear Bac0 Bac1 Bac2 Bac3 Bbc0 Bbc1 Bbc2 Bbc3 Bal Bbl
  obtain ⟨bu, hbx⟩ : ∃ b, b = W5.heap.size := ⟨_, rfl⟩
  rw [← hbx]
  obtain ⟨W6, hW⟩ : ∃ W, W = W5.alloc (.cells #[.int .i64 u, .int .i64 v] 27) := ⟨_, rfl⟩
  rw [← hW]
  have K : Below W5.heap.size W5 W6 := by rw [hW]; exact (by repeat (first | exact bR | refine bO ?_ | refine bA ?_ | refine bS ?_ | refine bD ?_ | refine bN ?_))
  have Bu := Lib.hid (show W6.heap[bu]? = some (.cells #[.int .i64 u, .int .i64 v] 27 (0, 0)) by rw [hW, hbx]; exact heap_alloc_new _ _)
  clear hW hbx
  replace T := T.trans (K.mono T.size)
  replace Ba := box_below Ba K
  replace Bb := box_below Bb K
  clear K Scode
  have Scode := Rcode.below (TV.trans (T.mono s0))
  refine (MakeNum_any (Scode.below (by repeat (first | exact bR | refine bO ?_ | refine bA ?_ | refine bS ?_ | refine bD ?_ | refine bN ?_))) hm ⟨by omega, by omega⟩).mono ?_
  rintro e W7 ⟨z, rfl, ⟨bz, bz'⟩, hb⟩
  have K : Below W6.heap.size W6 W7 := Below.trans (by repeat (first | exact bR | refine bO ?_ | refine bA ?_ | refine bS ?_ | refine bD ?_ | refine bN ?_)) (hb.mono (by first | exact Nat.le_refl _ | simp [ov_size]))
  clear hb
  replace T := T.trans (K.mono T.size)
  replace Ba := box_below Ba K
  replace Bb := box_below Bb K
  replace Bu := box_below Bu K
  clear K Scode
  have Scode := Rcode.below (TV.trans (T.mono s0))
  obtain ⟨k, hk⟩ : ∃ k : Int, z % 100 - 50 = k := ⟨_, rfl⟩
  have bk : -50 ≤ k := by omega
  have bk' : k ≤ 49 := by omega
  obtain ⟨⟨r0, r1, r2, r3, ok⟩, hmt⟩ : ∃ r, meetS na da ma ea nb db mb eb = r := ⟨_, rfl⟩
  have HM := Lib.hid hmt
  have hmi := meet_in (u := u) (v := v) oka okb oku hmt
  obtain ⟨⟨br0, br0'⟩, ⟨br1, br1'⟩, ⟨br2, br2'⟩, ⟨br3, br3'⟩⟩ := meet_bd oka okb hmt
  obtain ⟨⟨px, py⟩, hpk⟩ : ∃ r, pickS na da ma ea k = r := ⟨_, rfl⟩
  have HP := Lib.hid hpk
  have hin := pick_in (k := k) oka ⟨by omega, by omega⟩
  have hpo := pick_ok (k := k) oka ⟨by omega, by omega⟩
  have hnear : ∀ t : Int, (-60 ≤ t ∧ t ≤ 60) → inSpan na da ma ea t 1 = true → py = 1 ∧ ¬ (max (t - k) (k - t) < max (px - k) (k - px)) := fun t ht hi => by have := pick_near (k := k) (z := t) oka ⟨by omega, by omega⟩ ⟨by omega, by omega⟩ hi; rw [hpk] at this; exact this
  have hwh := whole_pick (k := k) oka ⟨by omega, by omega⟩
  have hwl := wholeS_le oka
  rw [hpk] at hin hpo hwh
  simp only at hin hpo hwh
  obtain ⟨⟨by1, by2⟩, bx1, bx2⟩ := ratioOk_bd hpo
  clear hmt hpk
  obtain ⟨Bac0, Bac1, Bac2, Bac3, Bal⟩ := cb4 Ba
  obtain ⟨Bbc0, Bbc1, Bbc2, Bbc3, Bbl⟩ := cb4 Bb
  obtain ⟨Buc0, Buc1, Bul⟩ := cb2 Bu
  go_wp2_with fail
  clear Bac0 Bac1 Bac2 Bac3 Bbc0 Bbc1 Bbc2 Bbc3 Buc0 Buc1 Bal Bbl Bul
  try rw [hk]
  refine (calls_ov (impl_MeetSpans_eq (by omega) (by omega) (by omega) (by omega) (by omega) (by omega) (by omega) (by omega) HM)).mono ?_
  rintro e w' ⟨rfl, x', rfl⟩
  obtain ⟨W8, hW⟩ : ∃ Z, Z = ov W7 x' := ⟨_, rfl⟩
  rw [← hW]
  have K : Below W7.heap.size W7 W8 := by rw [hW]; exact (by repeat (first | exact bR | refine bO ?_ | refine bA ?_ | refine bS ?_ | refine bD ?_ | refine bN ?_))
  clear hW
  replace T := T.trans (K.mono T.size)
  replace Ba := box_below Ba K
  replace Bb := box_below Bb K
  replace Bu := box_below Bu K
  clear K Scode
  have Scode := Rcode.below (TV.trans (T.mono s0))
  obtain ⟨Bac0, Bac1, Bac2, Bac3, Bal⟩ := cb4 Ba
  obtain ⟨Bbc0, Bbc1, Bbc2, Bbc3, Bbl⟩ := cb4 Bb
  obtain ⟨Buc0, Buc1, Bul⟩ := cb2 Bu
  go_wp2_with fail
  clear Bac0 Bac1 Bac2 Bac3 Bbc0 Bbc1 Bbc2 Bbc3 Buc0 Buc1 Bal Bbl Bul
  obtain ⟨bm, hbx⟩ : ∃ b, b = W8.heap.size := ⟨_, rfl⟩
  rw [← hbx]
  obtain ⟨W9, hW⟩ : ∃ W, W = W8.alloc (.cells #[.int .i64 r0, .int .i64 r1, .int .i64 r2, .int .i64 r3] 29) := ⟨_, rfl⟩
  rw [← hW]
  have K : Below W8.heap.size W8 W9 := by rw [hW]; exact (by repeat (first | exact bR | refine bO ?_ | refine bA ?_ | refine bS ?_ | refine bD ?_ | refine bN ?_))
  have Bm := Lib.hid (show W9.heap[bm]? = some (.cells #[.int .i64 r0, .int .i64 r1, .int .i64 r2, .int .i64 r3] 29 (0, 0)) by rw [hW, hbx]; exact heap_alloc_new _ _)
  clear hW hbx
  replace T := T.trans (K.mono T.size)
  replace Ba := box_below Ba K
  replace Bb := box_below Bb K
  replace Bu := box_below Bu K
  clear K Scode
  have Scode := Rcode.below (TV.trans (T.mono s0))
  refine (calls_ov (impl_PickInput_eq (by omega) (by omega) (by omega) (by omega) (by omega) HP)).mono ?_
  rintro e w' ⟨rfl, x', rfl⟩
  obtain ⟨W10, hW⟩ : ∃ Z, Z = ov W9 x' := ⟨_, rfl⟩
  rw [← hW]
  have K : Below W9.heap.size W9 W10 := by rw [hW]; exact (by repeat (first | exact bR | refine bO ?_ | refine bA ?_ | refine bS ?_ | refine bD ?_ | refine bN ?_))
  clear hW
  replace T := T.trans (K.mono T.size)
  replace Ba := box_below Ba K
  replace Bb := box_below Bb K
  replace Bu := box_below Bu K
  replace Bm := box_below Bm K
  clear K Scode
  have Scode := Rcode.below (TV.trans (T.mono s0))
  obtain ⟨Bac0, Bac1, Bac2, Bac3, Bal⟩ := cb4 Ba
  obtain ⟨Bbc0, Bbc1, Bbc2, Bbc3, Bbl⟩ := cb4 Bb
  obtain ⟨Buc0, Buc1, Bul⟩ := cb2 Bu
  obtain ⟨Bmc0, Bmc1, Bmc2, Bmc3, Bml⟩ := cb4 Bm
  go_wp2
  clear Bac0 Bac1 Bac2 Bac3 Bbc0 Bbc1 Bbc2 Bbc3 Buc0 Buc1 Bmc0 Bmc1 Bmc2 Bmc3 Bal Bbl Bul Bml
  obtain ⟨bx, hbx⟩ : ∃ b, b = W10.heap.size := ⟨_, rfl⟩
  rw [← hbx]
  obtain ⟨W11, hW⟩ : ∃ W, W = W10.alloc (.cells #[.int .i64 px, .int .i64 py] 27) := ⟨_, rfl⟩
  rw [← hW]
  have K : Below W10.heap.size W10 W11 := by rw [hW]; exact (by repeat (first | exact bR | refine bO ?_ | refine bA ?_ | refine bS ?_ | refine bD ?_ | refine bN ?_))
  have Bx := Lib.hid (show W11.heap[bx]? = some (.cells #[.int .i64 px, .int .i64 py] 27 (0, 0)) by rw [hW, hbx]; exact heap_alloc_new _ _)
  clear hW hbx
  replace T := T.trans (K.mono T.size)
  replace Ba := box_below Ba K
  replace Bb := box_below Bb K
  replace Bu := box_below Bu K
  replace Bm := box_below Bm K
  clear K Scode
  have Scode := Rcode.below (TV.trans (T.mono s0))
  obtain ⟨ia, hia⟩ : ∃ t, inSpan na da ma ea u v = t := ⟨_, rfl⟩
  obtain ⟨ib, hib⟩ : ∃ t, inSpan nb db mb eb u v = t := ⟨_, rfl⟩
  obtain ⟨im, him⟩ : ∃ t, inSpan r0 r1 r2 r3 u v = t := ⟨_, rfl⟩
  rw [hia, hib, him] at hmi
  have HIA := Lib.hid hia
  have HIB := Lib.hid hib
  have HIM := Lib.hid him
  have HS1 := Lib.hid oka
  have HS2 := Lib.hid okb
  have HIX := Lib.hid hin
  clear hia hib him HM HP Rcode Scode
  cases ok with
  | true =>
    have hmi1 := hmi.1 rfl
    cases ia with
    | false =>
      obtain rfl : im = false := by rw [hmi1]; rfl
      clear hmi hmi1
      obtain ⟨Bac0, Bac1, Bac2, Bac3, Bal⟩ := cb4 Ba
      obtain ⟨Bbc0, Bbc1, Bbc2, Bbc3, Bbl⟩ := cb4 Bb
      obtain ⟨Buc0, Buc1, Bul⟩ := cb2 Bu
      obtain ⟨Bmc0, Bmc1, Bmc2, Bmc3, Bml⟩ := cb4 Bm
      obtain ⟨Bxc0, Bxc1, Bxl⟩ := cb2 Bx
      ((first | (with_reducible refine wp_region_calm2 (by kernel_rfl) (by kernel_rfl) ?_) | refine wp_region_calm (by kernel_rfl) (by kernel_rfl) ?_); (repeat (go_big_quiet_step (first | (go_at_call 17; exact calm_below (spanOk_e HS1 (by omega) (by omega) (by omega) (by omega))) | (go_at_call 17; exact calm_below (spanOk_e HS2 (by omega) (by omega) (by omega) (by omega))) | (go_at_call 18; exact calm_below (inSpan_e HIX (by omega) (by omega) (by omega) (by omega) (by omega) (by omega))) | (go_at_call 18; exact calm_below (inSpan_e HIM (by omega) (by omega) (by omega) (by omega) (by omega) (by omega))) | (go_at_call 18; exact calm_below (inSpan_e HIA (by omega) (by omega) (by omega) (by omega) (by omega) (by omega))) | (go_at_call 18; exact calm_below (inSpan_e HIB (by omega) (by omega) (by omega) (by omega) (by omega) (by omega)))))); refine wpQuiet_nil ?_; rintro _ ⟨y, rfl⟩)
      clear Bac0 Bac1 Bac2 Bac3 Bbc0 Bbc1 Bbc2 Bbc3 Buc0 Buc1 Bmc0 Bmc1 Bmc2 Bmc3 Bxc0 Bxc1 Bal Bbl Bul Bml Bxl
      obtain ⟨W12, hW⟩ : ∃ Z, Z = ov W11 y := ⟨_, rfl⟩
      rw [← hW]
      have K : Below W11.heap.size W11 W12 := by rw [hW]; exact (by repeat (first | exact bR | refine bO ?_ | refine bA ?_ | refine bS ?_ | refine bD ?_ | refine bN ?_))
      clear hW
      replace T := T.trans (K.mono T.size)
      replace Ba := box_below Ba K
      replace Bb := box_below Bb K
      replace Bu := box_below Bu K
      replace Bm := box_below Bm K
      replace Bx := box_below Bx K
      clear K
      go_wp2
      go_loopw [10] (fun i wr => ∃ t : Int, (-60 ≤ t ∧ t ≤ 61) ∧ i = .int .i64 t ∧ Below W12.heap.size W12 wr) (fun i _ => (61 - intOf i).toNat)
      case atStart => exact ⟨-60, ⟨by omega, by omega⟩, rfl, Below.refl _ _⟩
      case round =>
        obtain ⟨t, ⟨ht1, ht2⟩, rfl, hb⟩ := hrel
        have hbs := hb.size
        replace Ba := box_below Ba hb
        replace Bb := box_below Bb hb
        replace Bu := box_below Bu hb
        replace Bm := box_below Bm hb
        replace Bx := box_below Bx hb
        by_cases hlt : t ≤ 60
        · obtain ⟨b1, hb1⟩ : ∃ b, inSpan na da ma ea t 1 = b := ⟨_, rfl⟩
          have HT := Lib.hid hb1
          have HO := Lib.hid (ratOf_one (n := t) ⟨by omega, by omega⟩)
          cases b1 with
          | false =>
            clear hnear hb1
            obtain ⟨Bac0, Bac1, Bac2, Bac3, Bal⟩ := cb4 Ba
            obtain ⟨Bbc0, Bbc1, Bbc2, Bbc3, Bbl⟩ := cb4 Bb
            obtain ⟨Buc0, Buc1, Bul⟩ := cb2 Bu
            obtain ⟨Bmc0, Bmc1, Bmc2, Bmc3, Bml⟩ := cb4 Bm
            obtain ⟨Bxc0, Bxc1, Bxl⟩ := cb2 Bx
            go_wp2
            ((first | (with_reducible refine wp_region_calm2 (by kernel_rfl) (by kernel_rfl) ?_) | refine wp_region_calm (by kernel_rfl) (by kernel_rfl) ?_); (repeat (go_big_quiet_step (first | (go_at_call 19; exact calm_below (impl_RatioOf_eq HO ⟨by omega, by omega⟩ ⟨by omega, by omega⟩)) | (go_at_call 18; exact calm_below (inSpan_e HT (by omega) (by omega) (by omega) (by omega) (by omega) (by omega)))))); refine wpQuiet_nil ?_; rintro _ ⟨y, rfl⟩)
            go_wp2
            go_roundw
            case rel => exact ⟨t + 1, ⟨by omega, by omega⟩, by go_num, (by repeat (first | exact hb | refine bO ?_ | refine bA ?_ | refine bS ?_ | refine bD ?_ | refine bN ?_))⟩
            case measure => simp [intOf]; omega
          | true =>
            obtain ⟨hy, hlt2⟩ := hnear t ⟨by omega, by omega⟩ hb1
            have hyb : (py != 1) = false := by rw [hy]; rfl
            clear hnear hb1
            obtain ⟨Bac0, Bac1, Bac2, Bac3, Bal⟩ := cb4 Ba
            obtain ⟨Bbc0, Bbc1, Bbc2, Bbc3, Bbl⟩ := cb4 Bb
            obtain ⟨Buc0, Buc1, Bul⟩ := cb2 Bu
            obtain ⟨Bmc0, Bmc1, Bmc2, Bmc3, Bml⟩ := cb4 Bm
            obtain ⟨Bxc0, Bxc1, Bxl⟩ := cb2 Bx
            go_wp2
            ((first | (with_reducible refine wp_region_calm2 (by kernel_rfl) (by kernel_rfl) ?_) | refine wp_region_calm (by kernel_rfl) (by kernel_rfl) ?_); (repeat (go_big_quiet_step (first | (go_at_call 19; exact calm_below (impl_RatioOf_eq HO ⟨by omega, by omega⟩ ⟨by omega, by omega⟩)) | (go_at_call 18; exact calm_below (inSpan_e HT (by omega) (by omega) (by omega) (by omega) (by omega) (by omega)))))); refine wpQuiet_nil ?_; rintro _ ⟨y, rfl⟩)
            go_wp2
            go_roundw
            case rel => exact ⟨t + 1, ⟨by omega, by omega⟩, by go_num, (by repeat (first | exact hb | refine bO ?_ | refine bA ?_ | refine bS ?_ | refine bD ?_ | refine bN ?_))⟩
            case measure => simp [intOf]; omega
        · clear hnear
          have HB : Below w.heap.size w wr := (TV.trans (T.mono s0)).trans (hb.mono (Nat.le_trans s0 T.size))
          have HBs := HB.size
          obtain ⟨wz, hwz⟩ : ∃ t, wholeS na da ma ea = t := ⟨_, rfl⟩
          have HW := Lib.hid hwz
          rw [hwz] at hwh hwl
          clear hwz
          have hw0 := hwh.1
          by_cases hz0 : wz = 0
          · have hzb : (wz == 0) = true := by simp; omega
            obtain ⟨Bac0, Bac1, Bac2, Bac3, Bal⟩ := cb4 Ba
            obtain ⟨Bbc0, Bbc1, Bbc2, Bbc3, Bbl⟩ := cb4 Bb
            obtain ⟨Buc0, Buc1, Bul⟩ := cb2 Bu
            obtain ⟨Bmc0, Bmc1, Bmc2, Bmc3, Bml⟩ := cb4 Bm
            obtain ⟨Bxc0, Bxc1, Bxl⟩ := cb2 Bx
            go_wp2_with ((go_at_call 9; (first | (with_reducible refine (calls_ov2 (whole_e HW (by omega) (by omega) (by omega) (by omega))).mono ?_) | refine (calls_ov (whole_e HW (by omega) (by omega) (by omega) (by omega))).mono ?_); rintro e w' ⟨rfl, x, rfl⟩))
            go_ret
            exact ⟨rfl, (by repeat (first | exact HB | refine bO ?_ | refine bA ?_ | refine bS ?_ | refine bD ?_ | refine bN ?_))⟩
          · have hzb : (wz == 0) = false := by simp; omega
            have hyb : (py == 1) = true := by have := hwh.2.resolve_left hz0; simp [this]
            obtain ⟨Bac0, Bac1, Bac2, Bac3, Bal⟩ := cb4 Ba
            obtain ⟨Bbc0, Bbc1, Bbc2, Bbc3, Bbl⟩ := cb4 Bb
            obtain ⟨Buc0, Buc1, Bul⟩ := cb2 Bu
            obtain ⟨Bmc0, Bmc1, Bmc2, Bmc3, Bml⟩ := cb4 Bm
            obtain ⟨Bxc0, Bxc1, Bxl⟩ := cb2 Bx
            go_wp2_with ((go_at_call 9; (first | (with_reducible refine (calls_ov2 (whole_e HW (by omega) (by omega) (by omega) (by omega))).mono ?_) | refine (calls_ov (whole_e HW (by omega) (by omega) (by omega) (by omega))).mono ?_); rintro e w' ⟨rfl, x, rfl⟩))
            go_ret
            exact ⟨rfl, (by repeat (first | exact HB | refine bO ?_ | refine bA ?_ | refine bS ?_ | refine bD ?_ | refine bN ?_))⟩
    | true =>
      obtain rfl : im = ib := by rw [hmi1]; rfl
      cases im with
      | false =>
        clear hmi hmi1
        obtain ⟨Bac0, Bac1, Bac2, Bac3, Bal⟩ := cb4 Ba
        obtain ⟨Bbc0, Bbc1, Bbc2, Bbc3, Bbl⟩ := cb4 Bb
        obtain ⟨Buc0, Buc1, Bul⟩ := cb2 Bu
        obtain ⟨Bmc0, Bmc1, Bmc2, Bmc3, Bml⟩ := cb4 Bm
        obtain ⟨Bxc0, Bxc1, Bxl⟩ := cb2 Bx
        ((first | (with_reducible refine wp_region_calm2 (by kernel_rfl) (by kernel_rfl) ?_) | refine wp_region_calm (by kernel_rfl) (by kernel_rfl) ?_); (repeat (go_big_quiet_step (first | (go_at_call 17; exact calm_below (spanOk_e HS1 (by omega) (by omega) (by omega) (by omega))) | (go_at_call 17; exact calm_below (spanOk_e HS2 (by omega) (by omega) (by omega) (by omega))) | (go_at_call 18; exact calm_below (inSpan_e HIX (by omega) (by omega) (by omega) (by omega) (by omega) (by omega))) | (go_at_call 18; exact calm_below (inSpan_e HIM (by omega) (by omega) (by omega) (by omega) (by omega) (by omega))) | (go_at_call 18; exact calm_below (inSpan_e HIA (by omega) (by omega) (by omega) (by omega) (by omega) (by omega))) | (go_at_call 18; exact calm_below (inSpan_e HIB (by omega) (by omega) (by omega) (by omega) (by omega) (by omega)))))); refine wpQuiet_nil ?_; rintro _ ⟨y, rfl⟩)
        clear Bac0 Bac1 Bac2 Bac3 Bbc0 Bbc1 Bbc2 Bbc3 Buc0 Buc1 Bmc0 Bmc1 Bmc2 Bmc3 Bxc0 Bxc1 Bal Bbl Bul Bml Bxl
        obtain ⟨W13, hW⟩ : ∃ Z, Z = ov W11 y := ⟨_, rfl⟩
        rw [← hW]
        have K : Below W11.heap.size W11 W13 := by rw [hW]; exact (by repeat (first | exact bR | refine bO ?_ | refine bA ?_ | refine bS ?_ | refine bD ?_ | refine bN ?_))
        clear hW
        replace T := T.trans (K.mono T.size)
        replace Ba := box_below Ba K
        replace Bb := box_below Bb K
        replace Bu := box_below Bu K
        replace Bm := box_below Bm K
        replace Bx := box_below Bx K
        clear K
        go_wp2
        go_loopw [10] (fun i wr => ∃ t : Int, (-60 ≤ t ∧ t ≤ 61) ∧ i = .int .i64 t ∧ Below W13.heap.size W13 wr) (fun i _ => (61 - intOf i).toNat)
        case atStart => exact ⟨-60, ⟨by omega, by omega⟩, rfl, Below.refl _ _⟩
        case round =>
          obtain ⟨t, ⟨ht1, ht2⟩, rfl, hb⟩ := hrel
          have hbs := hb.size
          replace Ba := box_below Ba hb
          replace Bb := box_below Bb hb
          replace Bu := box_below Bu hb
          replace Bm := box_below Bm hb
          replace Bx := box_below Bx hb
          by_cases hlt : t ≤ 60
          · obtain ⟨b1, hb1⟩ : ∃ b, inSpan na da ma ea t 1 = b := ⟨_, rfl⟩
            have HT := Lib.hid hb1
            have HO := Lib.hid (ratOf_one (n := t) ⟨by omega, by omega⟩)
            cases b1 with
            | false =>
              clear hnear hb1
              obtain ⟨Bac0, Bac1, Bac2, Bac3, Bal⟩ := cb4 Ba
              obtain ⟨Bbc0, Bbc1, Bbc2, Bbc3, Bbl⟩ := cb4 Bb
              obtain ⟨Buc0, Buc1, Bul⟩ := cb2 Bu
              obtain ⟨Bmc0, Bmc1, Bmc2, Bmc3, Bml⟩ := cb4 Bm
              obtain ⟨Bxc0, Bxc1, Bxl⟩ := cb2 Bx
              go_wp2
              ((first | (with_reducible refine wp_region_calm2 (by kernel_rfl) (by kernel_rfl) ?_) | refine wp_region_calm (by kernel_rfl) (by kernel_rfl) ?_); (repeat (go_big_quiet_step (first | (go_at_call 19; exact calm_below (impl_RatioOf_eq HO ⟨by omega, by omega⟩ ⟨by omega, by omega⟩)) | (go_at_call 18; exact calm_below (inSpan_e HT (by omega) (by omega) (by omega) (by omega) (by omega) (by omega)))))); refine wpQuiet_nil ?_; rintro _ ⟨y, rfl⟩)
              go_wp2
              go_roundw
              case rel => exact ⟨t + 1, ⟨by omega, by omega⟩, by go_num, (by repeat (first | exact hb | refine bO ?_ | refine bA ?_ | refine bS ?_ | refine bD ?_ | refine bN ?_))⟩
              case measure => simp [intOf]; omega
            | true =>
              obtain ⟨hy, hlt2⟩ := hnear t ⟨by omega, by omega⟩ hb1
              have hyb : (py != 1) = false := by rw [hy]; rfl
              clear hnear hb1
              obtain ⟨Bac0, Bac1, Bac2, Bac3, Bal⟩ := cb4 Ba
              obtain ⟨Bbc0, Bbc1, Bbc2, Bbc3, Bbl⟩ := cb4 Bb
              obtain ⟨Buc0, Buc1, Bul⟩ := cb2 Bu
              obtain ⟨Bmc0, Bmc1, Bmc2, Bmc3, Bml⟩ := cb4 Bm
              obtain ⟨Bxc0, Bxc1, Bxl⟩ := cb2 Bx
              go_wp2
              ((first | (with_reducible refine wp_region_calm2 (by kernel_rfl) (by kernel_rfl) ?_) | refine wp_region_calm (by kernel_rfl) (by kernel_rfl) ?_); (repeat (go_big_quiet_step (first | (go_at_call 19; exact calm_below (impl_RatioOf_eq HO ⟨by omega, by omega⟩ ⟨by omega, by omega⟩)) | (go_at_call 18; exact calm_below (inSpan_e HT (by omega) (by omega) (by omega) (by omega) (by omega) (by omega)))))); refine wpQuiet_nil ?_; rintro _ ⟨y, rfl⟩)
              go_wp2
              go_roundw
              case rel => exact ⟨t + 1, ⟨by omega, by omega⟩, by go_num, (by repeat (first | exact hb | refine bO ?_ | refine bA ?_ | refine bS ?_ | refine bD ?_ | refine bN ?_))⟩
              case measure => simp [intOf]; omega
          · clear hnear
            have HB : Below w.heap.size w wr := (TV.trans (T.mono s0)).trans (hb.mono (Nat.le_trans s0 T.size))
            have HBs := HB.size
            obtain ⟨wz, hwz⟩ : ∃ t, wholeS na da ma ea = t := ⟨_, rfl⟩
            have HW := Lib.hid hwz
            rw [hwz] at hwh hwl
            clear hwz
            have hw0 := hwh.1
            by_cases hz0 : wz = 0
            · have hzb : (wz == 0) = true := by simp; omega
              obtain ⟨Bac0, Bac1, Bac2, Bac3, Bal⟩ := cb4 Ba
              obtain ⟨Bbc0, Bbc1, Bbc2, Bbc3, Bbl⟩ := cb4 Bb
              obtain ⟨Buc0, Buc1, Bul⟩ := cb2 Bu
              obtain ⟨Bmc0, Bmc1, Bmc2, Bmc3, Bml⟩ := cb4 Bm
              obtain ⟨Bxc0, Bxc1, Bxl⟩ := cb2 Bx
              go_wp2_with ((go_at_call 9; (first | (with_reducible refine (calls_ov2 (whole_e HW (by omega) (by omega) (by omega) (by omega))).mono ?_) | refine (calls_ov (whole_e HW (by omega) (by omega) (by omega) (by omega))).mono ?_); rintro e w' ⟨rfl, x, rfl⟩))
              go_ret
              exact ⟨rfl, (by repeat (first | exact HB | refine bO ?_ | refine bA ?_ | refine bS ?_ | refine bD ?_ | refine bN ?_))⟩
            · have hzb : (wz == 0) = false := by simp; omega
              have hyb : (py == 1) = true := by have := hwh.2.resolve_left hz0; simp [this]
              obtain ⟨Bac0, Bac1, Bac2, Bac3, Bal⟩ := cb4 Ba
              obtain ⟨Bbc0, Bbc1, Bbc2, Bbc3, Bbl⟩ := cb4 Bb
              obtain ⟨Buc0, Buc1, Bul⟩ := cb2 Bu
              obtain ⟨Bmc0, Bmc1, Bmc2, Bmc3, Bml⟩ := cb4 Bm
              obtain ⟨Bxc0, Bxc1, Bxl⟩ := cb2 Bx
              go_wp2_with ((go_at_call 9; (first | (with_reducible refine (calls_ov2 (whole_e HW (by omega) (by omega) (by omega) (by omega))).mono ?_) | refine (calls_ov (whole_e HW (by omega) (by omega) (by omega) (by omega))).mono ?_); rintro e w' ⟨rfl, x, rfl⟩))
              go_ret
              exact ⟨rfl, (by repeat (first | exact HB | refine bO ?_ | refine bA ?_ | refine bS ?_ | refine bD ?_ | refine bN ?_))⟩
      | true =>
        clear hmi hmi1
        obtain ⟨Bac0, Bac1, Bac2, Bac3, Bal⟩ := cb4 Ba
        obtain ⟨Bbc0, Bbc1, Bbc2, Bbc3, Bbl⟩ := cb4 Bb
        obtain ⟨Buc0, Buc1, Bul⟩ := cb2 Bu
        obtain ⟨Bmc0, Bmc1, Bmc2, Bmc3, Bml⟩ := cb4 Bm
        obtain ⟨Bxc0, Bxc1, Bxl⟩ := cb2 Bx
        ((first | (with_reducible refine wp_region_calm2 (by kernel_rfl) (by kernel_rfl) ?_) | refine wp_region_calm (by kernel_rfl) (by kernel_rfl) ?_); (repeat (go_big_quiet_step (first | (go_at_call 17; exact calm_below (spanOk_e HS1 (by omega) (by omega) (by omega) (by omega))) | (go_at_call 17; exact calm_below (spanOk_e HS2 (by omega) (by omega) (by omega) (by omega))) | (go_at_call 18; exact calm_below (inSpan_e HIX (by omega) (by omega) (by omega) (by omega) (by omega) (by omega))) | (go_at_call 18; exact calm_below (inSpan_e HIM (by omega) (by omega) (by omega) (by omega) (by omega) (by omega))) | (go_at_call 18; exact calm_below (inSpan_e HIA (by omega) (by omega) (by omega) (by omega) (by omega) (by omega))) | (go_at_call 18; exact calm_below (inSpan_e HIB (by omega) (by omega) (by omega) (by omega) (by omega) (by omega)))))); refine wpQuiet_nil ?_; rintro _ ⟨y, rfl⟩)
        clear Bac0 Bac1 Bac2 Bac3 Bbc0 Bbc1 Bbc2 Bbc3 Buc0 Buc1 Bmc0 Bmc1 Bmc2 Bmc3 Bxc0 Bxc1 Bal Bbl Bul Bml Bxl
        obtain ⟨W14, hW⟩ : ∃ Z, Z = ov W11 y := ⟨_, rfl⟩
        rw [← hW]
        have K : Below W11.heap.size W11 W14 := by rw [hW]; exact (by repeat (first | exact bR | refine bO ?_ | refine bA ?_ | refine bS ?_ | refine bD ?_ | refine bN ?_))
        clear hW
        replace T := T.trans (K.mono T.size)
        replace Ba := box_below Ba K
        replace Bb := box_below Bb K
        replace Bu := box_below Bu K
        replace Bm := box_below Bm K
        replace Bx := box_below Bx K
        clear K
        go_wp2
        go_loopw [10] (fun i wr => ∃ t : Int, (-60 ≤ t ∧ t ≤ 61) ∧ i = .int .i64 t ∧ Below W14.heap.size W14 wr) (fun i _ => (61 - intOf i).toNat)
        case atStart => exact ⟨-60, ⟨by omega, by omega⟩, rfl, Below.refl _ _⟩
        case round =>
          obtain ⟨t, ⟨ht1, ht2⟩, rfl, hb⟩ := hrel
          have hbs := hb.size
          replace Ba := box_below Ba hb
          replace Bb := box_below Bb hb
          replace Bu := box_below Bu hb
          replace Bm := box_below Bm hb
          replace Bx := box_below Bx hb
          by_cases hlt : t ≤ 60
          · obtain ⟨b1, hb1⟩ : ∃ b, inSpan na da ma ea t 1 = b := ⟨_, rfl⟩
            have HT := Lib.hid hb1
            have HO := Lib.hid (ratOf_one (n := t) ⟨by omega, by omega⟩)
            cases b1 with
            | false =>
              clear hnear hb1
              obtain ⟨Bac0, Bac1, Bac2, Bac3, Bal⟩ := cb4 Ba
              obtain ⟨Bbc0, Bbc1, Bbc2, Bbc3, Bbl⟩ := cb4 Bb
              obtain ⟨Buc0, Buc1, Bul⟩ := cb2 Bu
              obtain ⟨Bmc0, Bmc1, Bmc2, Bmc3, Bml⟩ := cb4 Bm
              obtain ⟨Bxc0, Bxc1, Bxl⟩ := cb2 Bx
              go_wp2
              ((first | (with_reducible refine wp_region_calm2 (by kernel_rfl) (by kernel_rfl) ?_) | refine wp_region_calm (by kernel_rfl) (by kernel_rfl) ?_); (repeat (go_big_quiet_step (first | (go_at_call 19; exact calm_below (impl_RatioOf_eq HO ⟨by omega, by omega⟩ ⟨by omega, by omega⟩)) | (go_at_call 18; exact calm_below (inSpan_e HT (by omega) (by omega) (by omega) (by omega) (by omega) (by omega)))))); refine wpQuiet_nil ?_; rintro _ ⟨y, rfl⟩)
              go_wp2
              go_roundw
              case rel => exact ⟨t + 1, ⟨by omega, by omega⟩, by go_num, (by repeat (first | exact hb | refine bO ?_ | refine bA ?_ | refine bS ?_ | refine bD ?_ | refine bN ?_))⟩
              case measure => simp [intOf]; omega
            | true =>
              obtain ⟨hy, hlt2⟩ := hnear t ⟨by omega, by omega⟩ hb1
              have hyb : (py != 1) = false := by rw [hy]; rfl
              clear hnear hb1
              obtain ⟨Bac0, Bac1, Bac2, Bac3, Bal⟩ := cb4 Ba
              obtain ⟨Bbc0, Bbc1, Bbc2, Bbc3, Bbl⟩ := cb4 Bb
              obtain ⟨Buc0, Buc1, Bul⟩ := cb2 Bu
              obtain ⟨Bmc0, Bmc1, Bmc2, Bmc3, Bml⟩ := cb4 Bm
              obtain ⟨Bxc0, Bxc1, Bxl⟩ := cb2 Bx
              go_wp2
              ((first | (with_reducible refine wp_region_calm2 (by kernel_rfl) (by kernel_rfl) ?_) | refine wp_region_calm (by kernel_rfl) (by kernel_rfl) ?_); (repeat (go_big_quiet_step (first | (go_at_call 19; exact calm_below (impl_RatioOf_eq HO ⟨by omega, by omega⟩ ⟨by omega, by omega⟩)) | (go_at_call 18; exact calm_below (inSpan_e HT (by omega) (by omega) (by omega) (by omega) (by omega) (by omega)))))); refine wpQuiet_nil ?_; rintro _ ⟨y, rfl⟩)
              go_wp2
              go_roundw
              case rel => exact ⟨t + 1, ⟨by omega, by omega⟩, by go_num, (by repeat (first | exact hb | refine bO ?_ | refine bA ?_ | refine bS ?_ | refine bD ?_ | refine bN ?_))⟩
              case measure => simp [intOf]; omega
          · clear hnear
            have HB : Below w.heap.size w wr := (TV.trans (T.mono s0)).trans (hb.mono (Nat.le_trans s0 T.size))
            have HBs := HB.size
            obtain ⟨wz, hwz⟩ : ∃ t, wholeS na da ma ea = t := ⟨_, rfl⟩
            have HW := Lib.hid hwz
            rw [hwz] at hwh hwl
            clear hwz
            have hw0 := hwh.1
            by_cases hz0 : wz = 0
            · have hzb : (wz == 0) = true := by simp; omega
              obtain ⟨Bac0, Bac1, Bac2, Bac3, Bal⟩ := cb4 Ba
              obtain ⟨Bbc0, Bbc1, Bbc2, Bbc3, Bbl⟩ := cb4 Bb
              obtain ⟨Buc0, Buc1, Bul⟩ := cb2 Bu
              obtain ⟨Bmc0, Bmc1, Bmc2, Bmc3, Bml⟩ := cb4 Bm
              obtain ⟨Bxc0, Bxc1, Bxl⟩ := cb2 Bx
              go_wp2_with ((go_at_call 9; (first | (with_reducible refine (calls_ov2 (whole_e HW (by omega) (by omega) (by omega) (by omega))).mono ?_) | refine (calls_ov (whole_e HW (by omega) (by omega) (by omega) (by omega))).mono ?_); rintro e w' ⟨rfl, x, rfl⟩))
              go_ret
              exact ⟨rfl, (by repeat (first | exact HB | refine bO ?_ | refine bA ?_ | refine bS ?_ | refine bD ?_ | refine bN ?_))⟩
            · have hzb : (wz == 0) = false := by simp; omega
              have hyb : (py == 1) = true := by have := hwh.2.resolve_left hz0; simp [this]
              obtain ⟨Bac0, Bac1, Bac2, Bac3, Bal⟩ := cb4 Ba
              obtain ⟨Bbc0, Bbc1, Bbc2, Bbc3, Bbl⟩ := cb4 Bb
              obtain ⟨Buc0, Buc1, Bul⟩ := cb2 Bu
              obtain ⟨Bmc0, Bmc1, Bmc2, Bmc3, Bml⟩ := cb4 Bm
              obtain ⟨Bxc0, Bxc1, Bxl⟩ := cb2 Bx
              go_wp2_with ((go_at_call 9; (first | (with_reducible refine (calls_ov2 (whole_e HW (by omega) (by omega) (by omega) (by omega))).mono ?_) | refine (calls_ov (whole_e HW (by omega) (by omega) (by omega) (by omega))).mono ?_); rintro e w' ⟨rfl, x, rfl⟩))
              go_ret
              exact ⟨rfl, (by repeat (first | exact HB | refine bO ?_ | refine bA ?_ | refine bS ?_ | refine bD ?_ | refine bN ?_))⟩
  | false =>
    have hmi1 := hmi.2 rfl
    cases ia with
    | false =>
      clear hmi hmi1
      obtain ⟨Bac0, Bac1, Bac2, Bac3, Bal⟩ := cb4 Ba
      obtain ⟨Bbc0, Bbc1, Bbc2, Bbc3, Bbl⟩ := cb4 Bb
      obtain ⟨Buc0, Buc1, Bul⟩ := cb2 Bu
      obtain ⟨Bmc0, Bmc1, Bmc2, Bmc3, Bml⟩ := cb4 Bm
      obtain ⟨Bxc0, Bxc1, Bxl⟩ := cb2 Bx
      ((first | (with_reducible refine wp_region_calm2 (by kernel_rfl) (by kernel_rfl) ?_) | refine wp_region_calm (by kernel_rfl) (by kernel_rfl) ?_); (repeat (go_big_quiet_step (first | (go_at_call 17; exact calm_below (spanOk_e HS1 (by omega) (by omega) (by omega) (by omega))) | (go_at_call 17; exact calm_below (spanOk_e HS2 (by omega) (by omega) (by omega) (by omega))) | (go_at_call 18; exact calm_below (inSpan_e HIX (by omega) (by omega) (by omega) (by omega) (by omega) (by omega))) | (go_at_call 18; exact calm_below (inSpan_e HIM (by omega) (by omega) (by omega) (by omega) (by omega) (by omega))) | (go_at_call 18; exact calm_below (inSpan_e HIA (by omega) (by omega) (by omega) (by omega) (by omega) (by omega))) | (go_at_call 18; exact calm_below (inSpan_e HIB (by omega) (by omega) (by omega) (by omega) (by omega) (by omega)))))); refine wpQuiet_nil ?_; rintro _ ⟨y, rfl⟩)
      clear Bac0 Bac1 Bac2 Bac3 Bbc0 Bbc1 Bbc2 Bbc3 Buc0 Buc1 Bmc0 Bmc1 Bmc2 Bmc3 Bxc0 Bxc1 Bal Bbl Bul Bml Bxl
      obtain ⟨W15, hW⟩ : ∃ Z, Z = ov W11 y := ⟨_, rfl⟩
      rw [← hW]
      have K : Below W11.heap.size W11 W15 := by rw [hW]; exact (by repeat (first | exact bR | refine bO ?_ | refine bA ?_ | refine bS ?_ | refine bD ?_ | refine bN ?_))
      clear hW
      replace T := T.trans (K.mono T.size)
      replace Ba := box_below Ba K
      replace Bb := box_below Bb K
      replace Bu := box_below Bu K
      replace Bm := box_below Bm K
      replace Bx := box_below Bx K
      clear K
      go_wp2
      go_loopw [10] (fun i wr => ∃ t : Int, (-60 ≤ t ∧ t ≤ 61) ∧ i = .int .i64 t ∧ Below W15.heap.size W15 wr) (fun i _ => (61 - intOf i).toNat)
      case atStart => exact ⟨-60, ⟨by omega, by omega⟩, rfl, Below.refl _ _⟩
      case round =>
        obtain ⟨t, ⟨ht1, ht2⟩, rfl, hb⟩ := hrel
        have hbs := hb.size
        replace Ba := box_below Ba hb
        replace Bb := box_below Bb hb
        replace Bu := box_below Bu hb
        replace Bm := box_below Bm hb
        replace Bx := box_below Bx hb
        by_cases hlt : t ≤ 60
        · obtain ⟨b1, hb1⟩ : ∃ b, inSpan na da ma ea t 1 = b := ⟨_, rfl⟩
          have HT := Lib.hid hb1
          have HO := Lib.hid (ratOf_one (n := t) ⟨by omega, by omega⟩)
          cases b1 with
          | false =>
            clear hnear hb1
            obtain ⟨Bac0, Bac1, Bac2, Bac3, Bal⟩ := cb4 Ba
            obtain ⟨Bbc0, Bbc1, Bbc2, Bbc3, Bbl⟩ := cb4 Bb
            obtain ⟨Buc0, Buc1, Bul⟩ := cb2 Bu
            obtain ⟨Bmc0, Bmc1, Bmc2, Bmc3, Bml⟩ := cb4 Bm
            obtain ⟨Bxc0, Bxc1, Bxl⟩ := cb2 Bx
            go_wp2
            ((first | (with_reducible refine wp_region_calm2 (by kernel_rfl) (by kernel_rfl) ?_) | refine wp_region_calm (by kernel_rfl) (by kernel_rfl) ?_); (repeat (go_big_quiet_step (first | (go_at_call 19; exact calm_below (impl_RatioOf_eq HO ⟨by omega, by omega⟩ ⟨by omega, by omega⟩)) | (go_at_call 18; exact calm_below (inSpan_e HT (by omega) (by omega) (by omega) (by omega) (by omega) (by omega)))))); refine wpQuiet_nil ?_; rintro _ ⟨y, rfl⟩)
            go_wp2
            go_roundw
            case rel => exact ⟨t + 1, ⟨by omega, by omega⟩, by go_num, (by repeat (first | exact hb | refine bO ?_ | refine bA ?_ | refine bS ?_ | refine bD ?_ | refine bN ?_))⟩
            case measure => simp [intOf]; omega
          | true =>
            obtain ⟨hy, hlt2⟩ := hnear t ⟨by omega, by omega⟩ hb1
            have hyb : (py != 1) = false := by rw [hy]; rfl
            clear hnear hb1
            obtain ⟨Bac0, Bac1, Bac2, Bac3, Bal⟩ := cb4 Ba
            obtain ⟨Bbc0, Bbc1, Bbc2, Bbc3, Bbl⟩ := cb4 Bb
            obtain ⟨Buc0, Buc1, Bul⟩ := cb2 Bu
            obtain ⟨Bmc0, Bmc1, Bmc2, Bmc3, Bml⟩ := cb4 Bm
            obtain ⟨Bxc0, Bxc1, Bxl⟩ := cb2 Bx
            go_wp2
            ((first | (with_reducible refine wp_region_calm2 (by kernel_rfl) (by kernel_rfl) ?_) | refine wp_region_calm (by kernel_rfl) (by kernel_rfl) ?_); (repeat (go_big_quiet_step (first | (go_at_call 19; exact calm_below (impl_RatioOf_eq HO ⟨by omega, by omega⟩ ⟨by omega, by omega⟩)) | (go_at_call 18; exact calm_below (inSpan_e HT (by omega) (by omega) (by omega) (by omega) (by omega) (by omega)))))); refine wpQuiet_nil ?_; rintro _ ⟨y, rfl⟩)
            go_wp2
            go_roundw
            case rel => exact ⟨t + 1, ⟨by omega, by omega⟩, by go_num, (by repeat (first | exact hb | refine bO ?_ | refine bA ?_ | refine bS ?_ | refine bD ?_ | refine bN ?_))⟩
            case measure => simp [intOf]; omega
        · clear hnear
          have HB : Below w.heap.size w wr := (TV.trans (T.mono s0)).trans (hb.mono (Nat.le_trans s0 T.size))
          have HBs := HB.size
          obtain ⟨wz, hwz⟩ : ∃ t, wholeS na da ma ea = t := ⟨_, rfl⟩
          have HW := Lib.hid hwz
          rw [hwz] at hwh hwl
          clear hwz
          have hw0 := hwh.1
          by_cases hz0 : wz = 0
          · have hzb : (wz == 0) = true := by simp; omega
            obtain ⟨Bac0, Bac1, Bac2, Bac3, Bal⟩ := cb4 Ba
            obtain ⟨Bbc0, Bbc1, Bbc2, Bbc3, Bbl⟩ := cb4 Bb
            obtain ⟨Buc0, Buc1, Bul⟩ := cb2 Bu
            obtain ⟨Bmc0, Bmc1, Bmc2, Bmc3, Bml⟩ := cb4 Bm
            obtain ⟨Bxc0, Bxc1, Bxl⟩ := cb2 Bx
            go_wp2_with ((go_at_call 9; (first | (with_reducible refine (calls_ov2 (whole_e HW (by omega) (by omega) (by omega) (by omega))).mono ?_) | refine (calls_ov (whole_e HW (by omega) (by omega) (by omega) (by omega))).mono ?_); rintro e w' ⟨rfl, x, rfl⟩))
            go_ret
            exact ⟨rfl, (by repeat (first | exact HB | refine bO ?_ | refine bA ?_ | refine bS ?_ | refine bD ?_ | refine bN ?_))⟩
          · have hzb : (wz == 0) = false := by simp; omega
            have hyb : (py == 1) = true := by have := hwh.2.resolve_left hz0; simp [this]
            obtain ⟨Bac0, Bac1, Bac2, Bac3, Bal⟩ := cb4 Ba
            obtain ⟨Bbc0, Bbc1, Bbc2, Bbc3, Bbl⟩ := cb4 Bb
            obtain ⟨Buc0, Buc1, Bul⟩ := cb2 Bu
            obtain ⟨Bmc0, Bmc1, Bmc2, Bmc3, Bml⟩ := cb4 Bm
            obtain ⟨Bxc0, Bxc1, Bxl⟩ := cb2 Bx
            go_wp2_with ((go_at_call 9; (first | (with_reducible refine (calls_ov2 (whole_e HW (by omega) (by omega) (by omega) (by omega))).mono ?_) | refine (calls_ov (whole_e HW (by omega) (by omega) (by omega) (by omega))).mono ?_); rintro e w' ⟨rfl, x, rfl⟩))
            go_ret
            exact ⟨rfl, (by repeat (first | exact HB | refine bO ?_ | refine bA ?_ | refine bS ?_ | refine bD ?_ | refine bN ?_))⟩
    | true =>
      obtain rfl : ib = false := by rw [Bool.true_and] at hmi1; exact hmi1
      clear hmi hmi1
      obtain ⟨Bac0, Bac1, Bac2, Bac3, Bal⟩ := cb4 Ba
      obtain ⟨Bbc0, Bbc1, Bbc2, Bbc3, Bbl⟩ := cb4 Bb
      obtain ⟨Buc0, Buc1, Bul⟩ := cb2 Bu
      obtain ⟨Bmc0, Bmc1, Bmc2, Bmc3, Bml⟩ := cb4 Bm
      obtain ⟨Bxc0, Bxc1, Bxl⟩ := cb2 Bx
      ((first | (with_reducible refine wp_region_calm2 (by kernel_rfl) (by kernel_rfl) ?_) | refine wp_region_calm (by kernel_rfl) (by kernel_rfl) ?_); (repeat (go_big_quiet_step (first | (go_at_call 17; exact calm_below (spanOk_e HS1 (by omega) (by omega) (by omega) (by omega))) | (go_at_call 17; exact calm_below (spanOk_e HS2 (by omega) (by omega) (by omega) (by omega))) | (go_at_call 18; exact calm_below (inSpan_e HIX (by omega) (by omega) (by omega) (by omega) (by omega) (by omega))) | (go_at_call 18; exact calm_below (inSpan_e HIM (by omega) (by omega) (by omega) (by omega) (by omega) (by omega))) | (go_at_call 18; exact calm_below (inSpan_e HIA (by omega) (by omega) (by omega) (by omega) (by omega) (by omega))) | (go_at_call 18; exact calm_below (inSpan_e HIB (by omega) (by omega) (by omega) (by omega) (by omega) (by omega)))))); refine wpQuiet_nil ?_; rintro _ ⟨y, rfl⟩)
      clear Bac0 Bac1 Bac2 Bac3 Bbc0 Bbc1 Bbc2 Bbc3 Buc0 Buc1 Bmc0 Bmc1 Bmc2 Bmc3 Bxc0 Bxc1 Bal Bbl Bul Bml Bxl
      obtain ⟨W16, hW⟩ : ∃ Z, Z = ov W11 y := ⟨_, rfl⟩
      rw [← hW]
      have K : Below W11.heap.size W11 W16 := by rw [hW]; exact (by repeat (first | exact bR | refine bO ?_ | refine bA ?_ | refine bS ?_ | refine bD ?_ | refine bN ?_))
      clear hW
      replace T := T.trans (K.mono T.size)
      replace Ba := box_below Ba K
      replace Bb := box_below Bb K
      replace Bu := box_below Bu K
      replace Bm := box_below Bm K
      replace Bx := box_below Bx K
      clear K
      go_wp2
      go_loopw [10] (fun i wr => ∃ t : Int, (-60 ≤ t ∧ t ≤ 61) ∧ i = .int .i64 t ∧ Below W16.heap.size W16 wr) (fun i _ => (61 - intOf i).toNat)
      case atStart => exact ⟨-60, ⟨by omega, by omega⟩, rfl, Below.refl _ _⟩
      case round =>
        obtain ⟨t, ⟨ht1, ht2⟩, rfl, hb⟩ := hrel
        have hbs := hb.size
        replace Ba := box_below Ba hb
        replace Bb := box_below Bb hb
        replace Bu := box_below Bu hb
        replace Bm := box_below Bm hb
        replace Bx := box_below Bx hb
        by_cases hlt : t ≤ 60
        · obtain ⟨b1, hb1⟩ : ∃ b, inSpan na da ma ea t 1 = b := ⟨_, rfl⟩
          have HT := Lib.hid hb1
          have HO := Lib.hid (ratOf_one (n := t) ⟨by omega, by omega⟩)
          cases b1 with
          | false =>
            clear hnear hb1
            obtain ⟨Bac0, Bac1, Bac2, Bac3, Bal⟩ := cb4 Ba
            obtain ⟨Bbc0, Bbc1, Bbc2, Bbc3, Bbl⟩ := cb4 Bb
            obtain ⟨Buc0, Buc1, Bul⟩ := cb2 Bu
            obtain ⟨Bmc0, Bmc1, Bmc2, Bmc3, Bml⟩ := cb4 Bm
            obtain ⟨Bxc0, Bxc1, Bxl⟩ := cb2 Bx
            go_wp2
            ((first | (with_reducible refine wp_region_calm2 (by kernel_rfl) (by kernel_rfl) ?_) | refine wp_region_calm (by kernel_rfl) (by kernel_rfl) ?_); (repeat (go_big_quiet_step (first | (go_at_call 19; exact calm_below (impl_RatioOf_eq HO ⟨by omega, by omega⟩ ⟨by omega, by omega⟩)) | (go_at_call 18; exact calm_below (inSpan_e HT (by omega) (by omega) (by omega) (by omega) (by omega) (by omega)))))); refine wpQuiet_nil ?_; rintro _ ⟨y, rfl⟩)
            go_wp2
            go_roundw
            case rel => exact ⟨t + 1, ⟨by omega, by omega⟩, by go_num, (by repeat (first | exact hb | refine bO ?_ | refine bA ?_ | refine bS ?_ | refine bD ?_ | refine bN ?_))⟩
            case measure => simp [intOf]; omega
          | true =>
            obtain ⟨hy, hlt2⟩ := hnear t ⟨by omega, by omega⟩ hb1
            have hyb : (py != 1) = false := by rw [hy]; rfl
            clear hnear hb1
            obtain ⟨Bac0, Bac1, Bac2, Bac3, Bal⟩ := cb4 Ba
            obtain ⟨Bbc0, Bbc1, Bbc2, Bbc3, Bbl⟩ := cb4 Bb
            obtain ⟨Buc0, Buc1, Bul⟩ := cb2 Bu
            obtain ⟨Bmc0, Bmc1, Bmc2, Bmc3, Bml⟩ := cb4 Bm
            obtain ⟨Bxc0, Bxc1, Bxl⟩ := cb2 Bx
            go_wp2
            ((first | (with_reducible refine wp_region_calm2 (by kernel_rfl) (by kernel_rfl) ?_) | refine wp_region_calm (by kernel_rfl) (by kernel_rfl) ?_); (repeat (go_big_quiet_step (first | (go_at_call 19; exact calm_below (impl_RatioOf_eq HO ⟨by omega, by omega⟩ ⟨by omega, by omega⟩)) | (go_at_call 18; exact calm_below (inSpan_e HT (by omega) (by omega) (by omega) (by omega) (by omega) (by omega)))))); refine wpQuiet_nil ?_; rintro _ ⟨y, rfl⟩)
            go_wp2
            go_roundw
            case rel => exact ⟨t + 1, ⟨by omega, by omega⟩, by go_num, (by repeat (first | exact hb | refine bO ?_ | refine bA ?_ | refine bS ?_ | refine bD ?_ | refine bN ?_))⟩
            case measure => simp [intOf]; omega
        · clear hnear
          have HB : Below w.heap.size w wr := (TV.trans (T.mono s0)).trans (hb.mono (Nat.le_trans s0 T.size))
          have HBs := HB.size
          obtain ⟨wz, hwz⟩ : ∃ t, wholeS na da ma ea = t := ⟨_, rfl⟩
          have HW := Lib.hid hwz
          rw [hwz] at hwh hwl
          clear hwz
          have hw0 := hwh.1
          by_cases hz0 : wz = 0
          · have hzb : (wz == 0) = true := by simp; omega
            obtain ⟨Bac0, Bac1, Bac2, Bac3, Bal⟩ := cb4 Ba
            obtain ⟨Bbc0, Bbc1, Bbc2, Bbc3, Bbl⟩ := cb4 Bb
            obtain ⟨Buc0, Buc1, Bul⟩ := cb2 Bu
            obtain ⟨Bmc0, Bmc1, Bmc2, Bmc3, Bml⟩ := cb4 Bm
            obtain ⟨Bxc0, Bxc1, Bxl⟩ := cb2 Bx
            go_wp2_with ((go_at_call 9; (first | (with_reducible refine (calls_ov2 (whole_e HW (by omega) (by omega) (by omega) (by omega))).mono ?_) | refine (calls_ov (whole_e HW (by omega) (by omega) (by omega) (by omega))).mono ?_); rintro e w' ⟨rfl, x, rfl⟩))
            go_ret
            exact ⟨rfl, (by repeat (first | exact HB | refine bO ?_ | refine bA ?_ | refine bS ?_ | refine bD ?_ | refine bN ?_))⟩
          · have hzb : (wz == 0) = false := by simp; omega
            have hyb : (py == 1) = true := by have := hwh.2.resolve_left hz0; simp [this]
            obtain ⟨Bac0, Bac1, Bac2, Bac3, Bal⟩ := cb4 Ba
            obtain ⟨Bbc0, Bbc1, Bbc2, Bbc3, Bbl⟩ := cb4 Bb
            obtain ⟨Buc0, Buc1, Bul⟩ := cb2 Bu
            obtain ⟨Bmc0, Bmc1, Bmc2, Bmc3, Bml⟩ := cb4 Bm
            obtain ⟨Bxc0, Bxc1, Bxl⟩ := cb2 Bx
            go_wp2_with ((go_at_call 9; (first | (with_reducible refine (calls_ov2 (whole_e HW (by omega) (by omega) (by omega) (by omega))).mono ?_) | refine (calls_ov (whole_e HW (by omega) (by omega) (by omega) (by omega))).mono ?_); rintro e w' ⟨rfl, x, rfl⟩))
            go_ret
            exact ⟨rfl, (by repeat (first | exact HB | refine bO ?_ | refine bA ?_ | refine bS ?_ | refine bD ?_ | refine bN ?_))⟩
set_option maxRecDepth 100000 in
theorem FnSpans_lifted (os : Os) (started : os.Started) (H : Type) (enc : TypeId × Value → H) :
    ReturnsInHanded {} Try.checked os 5 .any (Rows.fnSpansSpec.pre6 enc Try.prog Try.f5 Rows.fnSpansRow.domain false) (Rows.fnSpansSpec.post enc Try.prog Try.f5 false true false false) := by
  refine returnsInHanded_of_change (C := Try.checked) own started (by kernel_rfl) Try.func5
    (ChangeSpec.witness6 (enc := enc) (C := Try.checked) false ⟨#[], #[.slice none 0 0], []⟩ 8 (by kernel_rfl) (by kernel_rfl) (by kernel_rfl) (by kernel_rfl)) ?_
  intro W base args ds gs before hval0 hW hcnd _
  have hval : ∀ (j : Nat) t v, Try.f5.params[j]? = some t → args[j]? = some v → Value.okWide Try.prog W .any base t v := hval0
  have hW' := hW
  obtain ⟨p, q, hA0, hV, rfl, hfz, hnd⟩ := hW
  have hA : DataW.TrodAll enc Try.prog W 0 (fun _ => true) true Try.f5.params.toList args.toList ds p := hA0
  rw [Try.params5] at hA hval
  obtain ⟨v0, vs0, d0, ds0, p0, q0, hargs0, rfl, rfl, h0, r0⟩ := trodAll_cons hA
  obtain ⟨rfl, rfl, rfl⟩ := trodAll_nil r0
  obtain rfl : args = #[v0] := by cases args; simp_all
  obtain ⟨rfl, rfl⟩ := trodVars_none hV
  have k0 := h0
  have lt0 : ∀ x ∈ p0, x.block < W.heap.size := by obtain ⟨m, hm⟩ := k0; exact DataW.trod_lt m _ _ _ hm
  have hv0 := hval 0 36 v0 rfl rfl
  obtain ⟨A0, c0, xs0, rfl, RR0, hlen0⟩ := open_bytes hv0 h0
  clear hA0 hval0
  refine (law10_any W RR0 hlen0).mono fun e W' ⟨he, bel⟩ => ?_
  subst he
  exact ⟨_, rfl, _, _, _, [], _, [], hW', trodAll_mk1 (shut_bool Try.underlying4 _), (trodAll_cons_mk (Below.trod laidOut (by kernel_rfl) (of_decide_eq_true (by kernel_rfl)) k0 bel lt0) trodAll_mk0), rfl, bel.frame _, fun h => by cases h⟩

theorem FnSpans_holds : Rows.FnSpansSaid :=
  OpenClaim.holds_of_wide 5 Try.f5 rfl rfl rfl rfl rfl rfl rfl ⟨rfl, rfl, rfl, rfl, rfl⟩ rfl rfl rfl rfl rfl (by kernel_rfl) Try.func5 (by kernel_rfl)
    (of_decide_eq_true (by kernel_rfl)) (by unfold Func.isWrapper; first | (rw [if_pos (by decide +kernel)]; kernel_rfl) | (rw [if_neg (by decide +kernel)]; exact ⟨rfl, rfl⟩))
    (fun os started H enc _ => FnSpans_lifted os started H enc)
#print axioms FnSpans_holds

end Go.Proofs.Ytfbfaidblggceaa
