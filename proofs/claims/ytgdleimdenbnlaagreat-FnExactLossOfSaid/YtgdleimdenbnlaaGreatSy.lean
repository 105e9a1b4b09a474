/- Contracts of l06Far, SupportOf and FarthestCorner of the reference. No condition but that lengths are ints. -/
import Derived.Test.YtgdleimdenbnlaaGreatSx
set_option linter.unusedSimpArgs false
set_option linter.unusedVariables false
set_option linter.unusedSectionVars false
namespace Go.Proofs.YtgdleimdenbnlaaGreat
open Go.RowKit

theorem spec_RatioCmp_eq {n d m e v : Int} {w : World} (h : Hid (ratioCmp n d m e = v)) (hn : -9223372036854775808 ≤ n ∧ n ≤ 9223372036854775807) (hd : -9223372036854775808 ≤ d ∧ d ≤ 9223372036854775807) (hm : -9223372036854775808 ≤ m ∧ m ≤ 9223372036854775807) (he : -9223372036854775808 ≤ e ∧ e ≤ 9223372036854775807) :
    Calls Tryz.prog 148 #[.agg #[.int .i64 n, .int .i64 d], .agg #[.int .i64 m, .int .i64 e]] w fun e' w' => e' = .returned (.int .i64 v) ∧ Below w.heap.size w w' := by
  have := spec_RatioCmp_any n d m e w hn hd hm he
  rw [h.out] at this; exact this
theorem vals_take {a b : Int} {cs : List H3} {k : Nat} (hk : k < cs.length) : (cs.map (valS a b)).take (k + 1) = (cs.map (valS a b)).take k ++ [valS a b cs[k]] := by
  rw [List.take_succ_eq_append_getElem (by rw [List.length_map]; exact hk), List.getElem_map]

set_option maxRecDepth 100000 in
set_option maxHeartbeats 8000000 in
theorem l06Far_eq {hs : List H3} {a b p q kb : Int} {A : Option Addr} {c : Nat} {w : World} (kp : regionOk hs = true) (ha : -50000 ≤ a ∧ a ≤ 50000) (hb : -50000 ≤ b ∧ b ≤ 50000) (R : R3 99 w A c hs) (hv : Hid (supN a b hs = (p, q))) (hk : Hid (farB (valsL a b hs) = kb)) :
    Calls Tryz.prog 122 #[.agg #[.slice A hs.length c], .int .i64 a, .int .i64 b] w fun e w' => e = .returned (.tuple #[.int .i64 kb, .agg #[.int .i64 p, .int .i64 q]]) ∧ Below w.heap.size w w' := by
  obtain ⟨G, h40⟩ := region_good kp
  have KS := Lib.hid (corners_spots kp)
  have hcl := cornersL_length hs
  have HV : Hid (ratOf (farN (valsL a b hs)).1 (farN (valsL a b hs)).2 = (p, q)) := hv
  have okV := valsL_ok ha hb kp
  have HCO := fun W (R : R3 99 W A c hs) => l05Corners_any G R (by omega)
  have HK := Lib.hid hk.out
  unfold valsL at HV HK okV
  obtain ⟨cs, hcs⟩ : ∃ cs, cornersL hs = cs := ⟨_, rfl⟩
  rw [hcs] at KS HV HK hcl HCO okV
  have HCC := Lib.hid HCO
  have OKV := Lib.hid okV
  clear hcs hv hk kp G HCO okV
  go_enter Tryz.func122, Tryz.ntmps122
  go_wp2_with fail
  refine (HCC.out _ (by repeat (first | assumption | refine R3.ov ?_ _ | refine R3.alloc ?_ _))).mono ?_
  rintro e w1 ⟨A3, c3, rfl, RS, hb1⟩
  have T0 : Below w.heap.size w w1 := Below.trans (by repeat (first | exact bR | refine bO ?_ | refine bA ?_ | refine bS ?_ | refine bD ?_ | refine bN ?_)) (hb1.mono (by first | omega | (simp <;> omega)))
  have X7 := Lib.hid ((hb1.block (w.heap.size + 1) (by simp)).trans ((heap_old_at (by simp)).trans (heap_new_at (r := some (.cells #[.int .i64 0, .int .i64 0] 43 (0, 0))) (by simp) rfl)))
  have X9 := Lib.hid ((hb1.block (w.heap.size + 1 + 1) (by simp)).trans (heap_new_at (r := some (.cells #[.int .i64 0, .int .i64 0] 43 (0, 0))) (by simp) rfl))
  replace RS := RS.weak (B' := w.heap.size) (by simp; omega)
  clear hb1 R HCC
  have t0 := T0.size
  obtain ⟨b9, e9⟩ : ∃ b, w.heap.size + 1 + 1 = b := ⟨_, rfl⟩
  have g9 : w.heap.size ≤ b9 := by omega
  have n97 : b9 ≠ w.heap.size + 1 := by omega
  rw [e9] at X9 ⊢
  obtain ⟨b7, e7⟩ : ∃ b, w.heap.size + 1 = b := ⟨_, rfl⟩
  have g7 : w.heap.size ≤ b7 := by omega
  rw [e7] at X7 n97 ⊢
  clear e7 e9
  go_wp2
  go_loopw [8, 17] (fun best i wr => ∃ (k : Nat) (t1 t2 bb : Int), k ≤ hs.length ∧ i = .int .i64 k ∧ best = .int .i64 bb ∧ Hid (farB ((cs.map (valS a b)).take k) = bb) ∧ Hid (ratOf (farN ((cs.map (valS a b)).take k)).1 (farN ((cs.map (valS a b)).take k)).2 = (t1, t2)) ∧ Hid (wr.heap[b9]? = some (.cells #[.int .i64 t1, .int .i64 t2] 43 (0, 0))) ∧ Hid (wr.heap[b7]? = some (.cells #[.int .i64 0, .int .i64 0] 43 (0, 0))) ∧ RB w.heap.size 41 wr A3 c3 cs ∧ Below w.heap.size w wr) (fun _ i _ => hs.length - (intOf i).toNat)
  case atStart => exact ⟨0, 0, 0, -1, Nat.zero_le _, rfl, rfl, Lib.hid rfl, Lib.hid (by rw [List.take_zero]; rfl), X9, X7, RS, T0⟩
  case round =>
    obtain ⟨k, t1, t2, bb, hk, rfl, rfl, HBB, HT, Y9, Y7, RK, hbw⟩ := hrel
    have hbs := hbw.size
    have c0 := cell_blk (j := 0) (v := .int .i64 t1) Y9.out rfl
    have c1 := cell_blk (j := 1) (v := .int .i64 t2) Y9.out rfl
    have f0 := frozen_blk (j := 0) Y9.out
    have f1 := frozen_blk (j := 1) Y9.out
    have l9 := (Array.getElem?_eq_some_iff.1 Y9.out).1
    have d0 := cell_blk (j := 0) (v := .int .i64 0) Y7.out rfl
    have d1 := cell_blk (j := 1) (v := .int .i64 0) Y7.out rfl
    have h0 := frozen_blk (j := 0) Y7.out
    have h1 := frozen_blk (j := 1) Y7.out
    have l7 := (Array.getElem?_eq_some_iff.1 Y7.out).1
    by_cases hlt : k < hs.length
    · have hlc : k < cs.length := by omega
      obtain ⟨g0, rfl, hg0, z0, z1, z2⟩ := RK.r3.at_ hlc
      have ks := KS.out _ (List.getElem_mem hlc)
      obtain ⟨m1, m2⟩ := valS_bd ha hb ks
      obtain ⟨m3, _⟩ := okS_bd ks
      have fx := valS_ok ha hb ks
      have okp : ∀ y ∈ (cs.map (valS a b)).take k, FrOk y := fun y hy => OKV.out y (List.mem_of_mem_take hy)
      have hN := farN_snoc (x := valS a b cs[k]) okp
      rw [← vals_take hlc] at hN
      have hbd := farN_ok okp
      have hle : ((cs.map (valS a b)).take k).length ≤ 40 := by rw [List.length_take]; omega
      have hlk : (((cs.map (valS a b)).take k).length : Int) = k := by rw [List.length_take, List.length_map]; omega
      rw [hlk] at hN
      have hgo : farGo ((cs.map (valS a b)).take k) (valS a b cs[k]) = (decide ((farN ((cs.map (valS a b)).take k)).2 = 0) || decide (0 < cmpF (valS a b cs[k]).1 (valS a b cs[k]).2 (farN ((cs.map (valS a b)).take k)).1 (farN ((cs.map (valS a b)).take k)).2)) := rfl
      obtain ⟨⟨r1, r2⟩, hr⟩ : ∃ s, ratOf (valS a b cs[k]).1 (valS a b cs[k]).2 = s := ⟨_, rfl⟩
      have HRO : Hid (ratOf (a * cs[k].a + b * cs[k].b) cs[k].c = (r1, r2)) := Lib.hid hr
      obtain ⟨_, _, _, _, _, hok⟩ := ratOf_fr fx
      rw [hr] at hok
      obtain ⟨q1, q2⟩ := ratioOk_bd hok
      have hcmp : FrOk (farN ((cs.map (valS a b)).take k)) → ratioCmp r1 r2 t1 t2 = cmpF (valS a b cs[k]).1 (valS a b cs[k]).2 (farN ((cs.map (valS a b)).take k)).1 (farN ((cs.map (valS a b)).take k)).2 := fun f => by
        have := ratCmp_fr fx f
        rw [hr, HT.out] at this; exact this
      have htb : FrOk (farN ((cs.map (valS a b)).take k)) → (-9223372036854775808 ≤ t1 ∧ t1 ≤ 9223372036854775807) ∧ (-9223372036854775808 ≤ t2 ∧ t2 ≤ 9223372036854775807) := fun f => by
        obtain ⟨_, _, _, _, _, h⟩ := ratOf_fr f
        rw [HT.out] at h
        have := ratioOk_bd h; omega
      rw [HBB.out] at hN hbd
      have HR1 := Lib.hid hr
      have HT2 := HT
      obtain ⟨go, hg⟩ : ∃ go, farGo ((cs.map (valS a b)).take k) (valS a b cs[k]) = go := ⟨_, rfl⟩
      rw [hg] at hN hgo
      -- the two ways on
      have STEP : Hid ((go = true → farB ((cs.map (valS a b)).take (k + 1)) = k ∧ ratOf (farN ((cs.map (valS a b)).take (k + 1))).1 (farN ((cs.map (valS a b)).take (k + 1))).2 = (r1, r2)) ∧ (go = false → farB ((cs.map (valS a b)).take (k + 1)) = bb ∧ ratOf (farN ((cs.map (valS a b)).take (k + 1))).1 (farN ((cs.map (valS a b)).take (k + 1))).2 = (t1, t2))) := by
        refine Lib.hid ⟨fun e => ?_, fun e => ?_⟩
        · subst e
          rw [if_pos rfl, if_pos rfl] at hN
          rw [hN.1]; exact ⟨hN.2, HR1.out⟩
        · subst e
          rw [if_neg (by simp), if_neg (by simp)] at hN
          rw [hN.1]; exact ⟨hN.2, HT.out⟩
      have CASES : (go = true ∧ bb = -1) ∨ (0 ≤ bb ∧ go = true ∧ ∃ v, Hid (ratioCmp r1 r2 t1 t2 = v) ∧ 0 < v ∧ ((-9223372036854775808 ≤ t1 ∧ t1 ≤ 9223372036854775807) ∧ (-9223372036854775808 ≤ t2 ∧ t2 ≤ 9223372036854775807))) ∨ (0 ≤ bb ∧ go = false ∧ ∃ v, Hid (ratioCmp r1 r2 t1 t2 = v) ∧ ¬ 0 < v ∧ ((-9223372036854775808 ≤ t1 ∧ t1 ≤ 9223372036854775807) ∧ (-9223372036854775808 ≤ t2 ∧ t2 ≤ 9223372036854775807))) := by
        rcases hbd with ⟨_, e1, e2⟩ | ⟨f, e1, _, _⟩
        · left
          rw [e1] at hgo
          exact ⟨hgo, e2⟩
        · right
          have hdn : decide ((farN ((cs.map (valS a b)).take k)).2 = 0) = false := decide_eq_false (by have := f.2.1; omega)
          rw [hdn, Bool.false_or] at hgo
          cases go with
          | true => left; exact ⟨e1, rfl, _, Lib.hid (hcmp f), of_decide_eq_true hgo.symm, htb f⟩
          | false => right; exact ⟨e1, rfl, _, Lib.hid (hcmp f), of_decide_eq_false hgo.symm, htb f⟩
      have S1 : Hid (RB w.heap.size 41 ((wr.setCell ⟨b9, 0, none⟩ (.int .i64 r1)).setCell ⟨b9, 1, none⟩ (.int .i64 r2)) (some ⟨g0, 0, none⟩) c3 cs ∧ ((wr.setCell ⟨b9, 0, none⟩ (.int .i64 r1)).setCell ⟨b9, 1, none⟩ (.int .i64 r2)).heap[b9]? = some (.cells #[.int .i64 r1, .int .i64 r2] 43 (0, 0)) ∧ ((wr.setCell ⟨b9, 0, none⟩ (.int .i64 r1)).setCell ⟨b9, 1, none⟩ (.int .i64 r2)).heap[b7]? = some (.cells #[.int .i64 0, .int .i64 0] 43 (0, 0)) ∧ Below w.heap.size w ((wr.setCell ⟨b9, 0, none⟩ (.int .i64 r1)).setCell ⟨b9, 1, none⟩ (.int .i64 r2))) := by
        have h1 := heap_setCell_same _ _ 0 _ _ (.int .i64 r1) Y9.out
        refine Lib.hid ⟨(RK.set_box Y9.out (by decide)).set_box h1 (by decide), heap_setCell_same _ _ _ _ _ _ h1, ?_, (hbw.setCell (p := ⟨b9, 0, none⟩) g9 _).setCell (p := ⟨b9, 1, none⟩) g9 _⟩
        exact (heap_setCell_other _ ⟨b9, 1, none⟩ _ _ (show b7 ≠ b9 from Ne.symm n97)).trans ((heap_setCell_other _ ⟨b9, 0, none⟩ _ _ (show b7 ≠ b9 from Ne.symm n97)).trans Y7.out)
      clear hN hbd hgo hr hcmp htb okp hg fx hlk
      rcases CASES with ⟨rfl, rfl⟩ | ⟨hb0, rfl, v, HC, hv, u1, u2⟩ | ⟨hb0, rfl, v, HC, hv, u1, u2⟩
      · have ST := Lib.hid (STEP.out.1 rfl)
        clear STEP
        go_wp2_with ((go_at_call 96; (first | (with_reducible refine (calls_ov2 (spec_RatioOf_eq HRO (by omega) (by omega))).mono ?_) | refine (calls_ov (spec_RatioOf_eq HRO (by omega) (by omega))).mono ?_); rintro e w' ⟨rfl, x, rfl⟩))
        go_roundw
        case rel => exact ⟨k + 1, r1, r2, k, by omega, by go_num, rfl, Lib.hid ST.out.1, Lib.hid ST.out.2, Lib.hid ((show Below ((wr.setCell ⟨b9, 0, none⟩ (.int .i64 r1)).setCell ⟨b9, 1, none⟩ (.int .i64 r2)).heap.size _ _ from (by repeat (first | exact bR | refine bO ?_ | refine bA ?_ | refine bS ?_ | refine bD ?_ | refine bN ?_))).block b9 (by simpa using l9) |>.trans S1.out.2.1), Lib.hid ((show Below ((wr.setCell ⟨b9, 0, none⟩ (.int .i64 r1)).setCell ⟨b9, 1, none⟩ (.int .i64 r2)).heap.size _ _ from (by repeat (first | exact bR | refine bO ?_ | refine bA ?_ | refine bS ?_ | refine bD ?_ | refine bN ?_))).block b7 (by simpa using l7) |>.trans S1.out.2.2.1), S1.out.1.below (by repeat (first | exact bR | refine bO ?_ | refine bA ?_ | refine bS ?_ | refine bD ?_ | refine bN ?_)), (by repeat (first | exact S1.out.2.2.2 | refine bO ?_ | refine bA ?_ | refine bS ?_ | refine bD ?_ | refine bN ?_))⟩
        case measure => simp [intOf] <;> omega
      · have ST := Lib.hid (STEP.out.1 rfl)
        clear STEP
        go_wp2_with (first | (go_at_call 96; (first | (with_reducible refine (calls_ov2 (spec_RatioOf_eq HRO (by omega) (by omega))).mono ?_) | refine (calls_ov (spec_RatioOf_eq HRO (by omega) (by omega))).mono ?_); rintro e w' ⟨rfl, x, rfl⟩) | (go_at_call 148; (first | (with_reducible refine (calls_ov2 (spec_RatioCmp_eq HC (by omega) (by omega) (by omega) (by omega))).mono ?_) | refine (calls_ov (spec_RatioCmp_eq HC (by omega) (by omega) (by omega) (by omega))).mono ?_); rintro e w' ⟨rfl, x, rfl⟩))
        go_roundw
        case rel => exact ⟨k + 1, r1, r2, k, by omega, by go_num, rfl, Lib.hid ST.out.1, Lib.hid ST.out.2, Lib.hid ((show Below ((wr.setCell ⟨b9, 0, none⟩ (.int .i64 r1)).setCell ⟨b9, 1, none⟩ (.int .i64 r2)).heap.size _ _ from (by repeat (first | exact bR | refine bO ?_ | refine bA ?_ | refine bS ?_ | refine bD ?_ | refine bN ?_))).block b9 (by simpa using l9) |>.trans S1.out.2.1), Lib.hid ((show Below ((wr.setCell ⟨b9, 0, none⟩ (.int .i64 r1)).setCell ⟨b9, 1, none⟩ (.int .i64 r2)).heap.size _ _ from (by repeat (first | exact bR | refine bO ?_ | refine bA ?_ | refine bS ?_ | refine bD ?_ | refine bN ?_))).block b7 (by simpa using l7) |>.trans S1.out.2.2.1), S1.out.1.below (by repeat (first | exact bR | refine bO ?_ | refine bA ?_ | refine bS ?_ | refine bD ?_ | refine bN ?_)), (by repeat (first | exact S1.out.2.2.2 | refine bO ?_ | refine bA ?_ | refine bS ?_ | refine bD ?_ | refine bN ?_))⟩
        case measure => simp [intOf] <;> omega
      · have ST := Lib.hid (STEP.out.2 rfl)
        clear STEP
        go_wp2_with (first | (go_at_call 96; (first | (with_reducible refine (calls_ov2 (spec_RatioOf_eq HRO (by omega) (by omega))).mono ?_) | refine (calls_ov (spec_RatioOf_eq HRO (by omega) (by omega))).mono ?_); rintro e w' ⟨rfl, x, rfl⟩) | (go_at_call 148; (first | (with_reducible refine (calls_ov2 (spec_RatioCmp_eq HC (by omega) (by omega) (by omega) (by omega))).mono ?_) | refine (calls_ov (spec_RatioCmp_eq HC (by omega) (by omega) (by omega) (by omega))).mono ?_); rintro e w' ⟨rfl, x, rfl⟩))
        go_roundw
        case rel => exact ⟨k + 1, t1, t2, bb, by omega, by go_num, rfl, Lib.hid ST.out.1, Lib.hid ST.out.2, box_below Y9 (by repeat (first | exact bR | refine bO ?_ | refine bA ?_ | refine bS ?_ | refine bD ?_ | refine bN ?_)), box_below Y7 (by repeat (first | exact bR | refine bO ?_ | refine bA ?_ | refine bS ?_ | refine bD ?_ | refine bN ?_)), RK.below (by repeat (first | exact bR | refine bO ?_ | refine bA ?_ | refine bS ?_ | refine bD ?_ | refine bN ?_)), (by repeat (first | exact hbw | refine bO ?_ | refine bA ?_ | refine bS ?_ | refine bD ?_ | refine bN ?_))⟩
        case measure => simp [intOf] <;> omega
    · obtain rfl : k = hs.length := by omega
      have hfull : (cs.map (valS a b)).take hs.length = cs.map (valS a b) := by rw [← hcl, ← List.length_map (f := valS a b), List.take_length]
      rw [hfull] at HBB HT
      obtain rfl : bb = kb := by rw [← HBB.out]; exact HK.out
      have ht := HT.out
      rw [HV.out] at ht
      obtain ⟨rfl, rfl⟩ : p = t1 ∧ q = t2 := by simpa using ht
      clear ht hfull HBB HT HK HV
      go_wp2
      go_region
      all_goals go_wp2
      all_goals (refine bodyPost_ret (v := .tuple #[.int .i64 bb, .agg #[.int .i64 p, .int .i64 q]]) (by simp [results, Tryz.results122, go_sem, *]) rfl ⟨rfl, ?_⟩)
      all_goals exact (by repeat (first | exact hbw | refine bO ?_ | refine bA ?_ | refine bS ?_ | refine bD ?_ | refine bN ?_))

theorem sup_shape2 (hs : List H3) (a b : Int) : (supOk hs a b = false ∧ (regionOk hs = false ∨ (regionOk hs = true ∧ decide (hs.length = 0) = true) ∨ (regionOk hs = true ∧ decide (hs.length = 0) = false ∧ inR a (-50000) 50000 = false) ∨ (regionOk hs = true ∧ decide (hs.length = 0) = false ∧ inR a (-50000) 50000 = true ∧ inR b (-50000) 50000 = false))) ∨
    (supOk hs a b = true ∧ decide (hs.length = 0) = false ∧ inR a (-50000) 50000 = true ∧ inR b (-50000) 50000 = true ∧ regionOk hs = true ∧ hs ≠ []) := by
  by_cases h0 : hs = []
  · subst h0; left; exact ⟨by simp [supOk], .inr (.inl ⟨rfl, rfl⟩)⟩
  · have e : decide (hs.length = 0) = false := decide_eq_false (fun e => h0 (List.length_eq_zero_iff.1 e))
    have e2 : decide (hs ≠ []) = true := decide_eq_true h0
    unfold supOk
    rw [e, e2]
    simp only [Bool.true_and]
    generalize inR a (-50000) 50000 = y
    generalize inR b (-50000) 50000 = z
    generalize regionOk hs = t
    cases y <;> cases z <;> cases t <;> simp [h0]
set_option maxRecDepth 100000 in
set_option maxHeartbeats 4000000 in
theorem spec_SupportOf_eq {hs : List H3} {a b p q : Int} {ok : Bool} {A : Option Addr} {c : Nat} {w : World} (R : R3 99 w A c hs) (hl : hs.length ≤ 1000000000) (hr : Hid (supR hs a b = ((p, q), ok))) :
    Calls Tryz.prog 97 #[.agg #[.slice A hs.length c], .int .i64 a, .int .i64 b] w fun e w' => e = .returned (.tuple #[.agg #[.int .i64 p, .int .i64 q], .bool ok]) ∧ Below w.heap.size w w' := by
  have hr' := hr.out
  clear hr
  unfold supR at hr'
  rcases sup_shape2 hs a b with ⟨h0, hc⟩ | ⟨h0, h1, h2, h3, h4, h5⟩
  · rw [h0, if_neg (by simp)] at hr'
    simp at hr'
    obtain ⟨⟨rfl, rfl⟩, rfl⟩ := hr'
    clear h0
    rcases hc with h4 | ⟨h4, h1⟩ | ⟨h4, h1, h2⟩ | ⟨h4, h1, h2, h3⟩
    · have H4 := Lib.hid h4
      clear h4
      go_enter Tryz.func97, Tryz.ntmps97
      go_wp2_with (first | (go_at_call 56; (first | (with_reducible refine (calls_ov2 (spec_RegionOk_eq (by repeat (first | assumption | refine R3.ov ?_ _ | refine R3.alloc ?_ _)) hl H4)).mono ?_) | refine (calls_ov (spec_RegionOk_eq (by repeat (first | assumption | refine R3.ov ?_ _ | refine R3.alloc ?_ _)) hl H4)).mono ?_); rintro e w' ⟨rfl, x, rfl⟩))
      refine bodyPost_ret (v := .tuple #[.agg #[.int .i64 0, .int .i64 0], .bool false]) (by simp [results, Tryz.results97, go_sem]) rfl ⟨rfl, (by repeat (first | exact bR | refine bO ?_ | refine bA ?_ | refine bS ?_ | refine bD ?_ | refine bN ?_))⟩
    · have H4 := Lib.hid h4
      have H1 := Lib.hid h1
      clear h1 h4
      go_enter Tryz.func97, Tryz.ntmps97
      go_wp2_with (first | (go_at_call 56; (first | (with_reducible refine (calls_ov2 (spec_RegionOk_eq (by repeat (first | assumption | refine R3.ov ?_ _ | refine R3.alloc ?_ _)) hl H4)).mono ?_) | refine (calls_ov (spec_RegionOk_eq (by repeat (first | assumption | refine R3.ov ?_ _ | refine R3.alloc ?_ _)) hl H4)).mono ?_); rintro e w' ⟨rfl, x, rfl⟩) | (go_at_call 77; (first | (with_reducible refine (calls_ov2 (spec_IsVoid_eq H1)).mono ?_) | refine (calls_ov (spec_IsVoid_eq H1)).mono ?_); rintro e w' ⟨rfl, x, rfl⟩))
      refine bodyPost_ret (v := .tuple #[.agg #[.int .i64 0, .int .i64 0], .bool false]) (by simp [results, Tryz.results97, go_sem]) rfl ⟨rfl, (by repeat (first | exact bR | refine bO ?_ | refine bA ?_ | refine bS ?_ | refine bD ?_ | refine bN ?_))⟩
    · have H4 := Lib.hid h4
      have H1 := Lib.hid h1
      have H2 := Lib.hid h2
      clear h1 h2 h4
      go_enter Tryz.func97, Tryz.ntmps97
      go_wp2_with (first | (go_at_call 56; (first | (with_reducible refine (calls_ov2 (spec_RegionOk_eq (by repeat (first | assumption | refine R3.ov ?_ _ | refine R3.alloc ?_ _)) hl H4)).mono ?_) | refine (calls_ov (spec_RegionOk_eq (by repeat (first | assumption | refine R3.ov ?_ _ | refine R3.alloc ?_ _)) hl H4)).mono ?_); rintro e w' ⟨rfl, x, rfl⟩) | (go_at_call 77; (first | (with_reducible refine (calls_ov2 (spec_IsVoid_eq H1)).mono ?_) | refine (calls_ov (spec_IsVoid_eq H1)).mono ?_); rintro e w' ⟨rfl, x, rfl⟩) | (go_at_call 90; refine (l01In_eq (by exact H2.out)).mono ?_; rintro e w' ⟨rfl, rfl⟩))
      refine bodyPost_ret (v := .tuple #[.agg #[.int .i64 0, .int .i64 0], .bool false]) (by simp [results, Tryz.results97, go_sem]) rfl ⟨rfl, (by repeat (first | exact bR | refine bO ?_ | refine bA ?_ | refine bS ?_ | refine bD ?_ | refine bN ?_))⟩
    · have H4 := Lib.hid h4
      have H1 := Lib.hid h1
      have H2 := Lib.hid h2
      have H3 := Lib.hid h3
      clear h1 h2 h3 h4
      go_enter Tryz.func97, Tryz.ntmps97
      go_wp2_with (first | (go_at_call 56; (first | (with_reducible refine (calls_ov2 (spec_RegionOk_eq (by repeat (first | assumption | refine R3.ov ?_ _ | refine R3.alloc ?_ _)) hl H4)).mono ?_) | refine (calls_ov (spec_RegionOk_eq (by repeat (first | assumption | refine R3.ov ?_ _ | refine R3.alloc ?_ _)) hl H4)).mono ?_); rintro e w' ⟨rfl, x, rfl⟩) | (go_at_call 77; (first | (with_reducible refine (calls_ov2 (spec_IsVoid_eq H1)).mono ?_) | refine (calls_ov (spec_IsVoid_eq H1)).mono ?_); rintro e w' ⟨rfl, x, rfl⟩) | (go_at_call 90; refine (l01In_eq (by first | exact H2.out | exact H3.out)).mono ?_; rintro e w' ⟨rfl, rfl⟩))
      refine bodyPost_ret (v := .tuple #[.agg #[.int .i64 0, .int .i64 0], .bool false]) (by simp [results, Tryz.results97, go_sem]) rfl ⟨rfl, (by repeat (first | exact bR | refine bO ?_ | refine bA ?_ | refine bS ?_ | refine bD ?_ | refine bN ?_))⟩
  · rw [h0, if_pos rfl] at hr'
    have hse := congrArg (·.1) hr'
    have ho := congrArg (·.2) hr'
    simp only at hse ho
    subst ho
    have HS := Lib.hid hse
    obtain ⟨f, _, _⟩ := sup_parts (inR_iff.1 h2) (inR_iff.1 h3) h4 h5
    obtain ⟨g, _, _, _, _, hok⟩ := ratOf_fr f
    have HOK := Lib.hid (show ratioOk p q = true by unfold supN at hse; rw [hse] at hok; exact hok)
    obtain ⟨qb, pb⟩ := ratioOk_bd HOK.out
    have HSU := Lib.hid (fun W (R : R3 99 W A c hs) => l06Far_eq h4 (inR_iff.1 h2) (inR_iff.1 h3) R HS (Lib.hid rfl))
    obtain ⟨kb, hkb⟩ : ∃ kb, farB (valsL a b hs) = kb := ⟨_, rfl⟩
    rw [hkb] at HSU
    have H1 := Lib.hid h1
    have H2 := Lib.hid h2
    have H3 := Lib.hid h3
    have H4 := Lib.hid h4
    clear h0 h1 h2 h3 h4 h5 hse hr' f hok hkb
    go_enter Tryz.func97, Tryz.ntmps97
    go_wp2_with (first | (go_at_call 77; (first | (with_reducible refine (calls_ov2 (spec_IsVoid_eq H1)).mono ?_) | refine (calls_ov (spec_IsVoid_eq H1)).mono ?_); rintro e w' ⟨rfl, x, rfl⟩) | (go_at_call 90; refine (l01In_eq (by first | exact H2.out | exact H3.out)).mono ?_; rintro e w' ⟨rfl, rfl⟩) | (go_at_call 56; (first | (with_reducible refine (calls_ov2 (spec_RegionOk_eq (by repeat (first | assumption | refine R3.ov ?_ _ | refine R3.alloc ?_ _)) hl H4)).mono ?_) | refine (calls_ov (spec_RegionOk_eq (by repeat (first | assumption | refine R3.ov ?_ _ | refine R3.alloc ?_ _)) hl H4)).mono ?_); rintro e w' ⟨rfl, x, rfl⟩) | (go_at_call 122; (first | (with_reducible refine (calls_ov2 (HSU.out _ (by repeat (first | assumption | refine R3.ov ?_ _ | refine R3.alloc ?_ _)))).mono ?_) | refine (calls_ov (HSU.out _ (by repeat (first | assumption | refine R3.ov ?_ _ | refine R3.alloc ?_ _)))).mono ?_); rintro e w' ⟨rfl, x, rfl⟩))
    go_region_with ((go_at_call 100; (first | (with_reducible refine (calls_ov2 (spec_RatioOk_eq (by exact HOK.out) (by omega) (by omega))).mono ?_) | refine (calls_ov (spec_RatioOk_eq (by exact HOK.out) (by omega) (by omega))).mono ?_); rintro e w' ⟨rfl, x, rfl⟩))
    all_goals go_wp2
    all_goals (refine bodyPost_ret (v := .tuple #[.agg #[.int .i64 p, .int .i64 q], .bool true]) (by simp [results, Tryz.results97, go_sem]) rfl ⟨rfl, ?_⟩)
    all_goals (repeat (first | exact bR | refine bO ?_ | refine bA ?_ | refine bS ?_ | refine bD ?_ | refine bN ?_))
end Go.Proofs.YtgdleimdenbnlaaGreat
