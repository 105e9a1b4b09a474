/- Several texts in one: Sh, So. Each says its own conditions. -/
import Derived.Test.YtabmfaamadbefaaGreatH
import Derived.Test.YtabmfaamadbefaaGreatGeo
import Derived.Test.YtabmfaamadbefaaGreatTi
import Derived.Test.YtabmfaamadbefaaGreatRo
/- Contracts of the reference's BeforeAngle, SameDirection and TighterHalf at valid half planes. Condition: they are valid. -/
set_option linter.unusedSimpArgs false
set_option linter.unusedVariables false
set_option linter.unusedSectionVars false
namespace Go.Proofs.YtabmfaamadbefaaGreat
open Go.RowKit
theorem dot_same {g h : H3} (ng : NZ g) (nh : NZ h) (d : sameDir g h = true) : 0 < g.a * h.a + g.b * h.b := by
  obtain ⟨ea, eb⟩ := prop_of_sameDir ng nh d
  have pg := size_pos ng
  have ph := size_pos nh
  have hn := nrm_pos nh
  refine pos_of_mul_pos ph ?_
  have e : (g.a * h.a + g.b * h.b) * sizeH h = nrm h * sizeH g := by
    have e1 : (g.a * h.a + g.b * h.b) * sizeH h = (g.a * sizeH h) * h.a + (g.b * sizeH h) * h.b := by grind
    rw [e1, ea, eb]; unfold nrm; grind
  rw [e]
  exact mul_pos' hn pg
theorem dot_opp {g h : H3} (ng : NZ g) (nh : NZ h) (k : cross g h = 0) (d : sameDir g h = false) : g.a * h.a + g.b * h.b < 0 := by
  obtain ⟨ea, eb⟩ := opp_prop ng nh k d
  have pg := size_pos ng
  have ph := size_pos nh
  have hn := nrm_pos ng
  have e : (-(g.a * h.a + g.b * h.b)) * sizeH g = nrm g * sizeH h := by
    have e1 : (-(g.a * h.a + g.b * h.b)) * sizeH g = -((h.a * sizeH g) * g.a + (h.b * sizeH g) * g.b) := by grind
    rw [e1, ea, eb]; unfold nrm; grind
  have := pos_of_mul_pos pg (x := -(g.a * h.a + g.b * h.b)) (by rw [e]; exact mul_pos' hn ph)
  omega
def l1H (h : H3) : Int := max h.a (-h.a) + max h.b (-h.b)
theorem l1_pos {h : H3} (n : NZ h) : 0 < l1H h := by unfold l1H NZ at *; omega
theorem abs_mul {x y s t : Int} (hs : 0 < s) (ht : 0 < t) (e : x * s = y * t) : max x (-x) * s = max y (-y) * t := by
  rcases Int.lt_or_le x 0 with h | h
  · have : y < 0 := by
      rcases Int.lt_or_le y 0 with h2 | h2
      · exact h2
      · have h3 := mul_neg' hs h
        have h4 := Int.mul_nonneg h2 (show 0 ≤ t by omega)
        rw [Int.mul_comm] at h3
        omega
    rw [Int.max_eq_right (by omega), Int.max_eq_right (by omega)]
    grind
  · have : 0 ≤ y := by
      rcases Int.lt_or_le y 0 with h2 | h2
      · have h3 := mul_neg' ht h2
        have h4 := Int.mul_nonneg h (show 0 ≤ s by omega)
        rw [Int.mul_comm] at h3
        omega
      · exact h2
    rw [Int.max_eq_left (by omega), Int.max_eq_left (by omega)]
    exact e
theorem tighter_l1 {g h : H3} (ng : NZ g) (nh : NZ h) (d : sameDir g h = true) : (h.c * l1H g < g.c * l1H h) ↔ (h.c * sizeH g < g.c * sizeH h) := by
  obtain ⟨ea, eb⟩ := prop_of_sameDir ng nh d
  have pg := size_pos ng
  have ph := size_pos nh
  have e : l1H g * sizeH h = l1H h * sizeH g := by
    unfold l1H
    rw [Int.add_mul, Int.add_mul, abs_mul ph pg ea, abs_mul ph pg eb]
  have pl := l1_pos nh
  have e1 : h.c * l1H g * sizeH h = (h.c * sizeH g) * l1H h := by rw [Int.mul_assoc, e]; grind
  have e2 : g.c * l1H h * sizeH h = (g.c * sizeH h) * l1H h := by grind
  constructor
  · intro hh
    have := Int.mul_lt_mul_of_pos_right hh ph
    rw [e1, e2] at this
    exact Int.lt_of_mul_lt_mul_right this (by omega)
  · intro hh
    have := Int.mul_lt_mul_of_pos_right hh pl
    rw [← e1, ← e2] at this
    exact Int.lt_of_mul_lt_mul_right this (by omega)

theorem spec_BeforeAngle_eq {g h : H3} {v : Bool} {w : World} (kg : HOk g) (kh : HOk h) (e : before g h = v) : Calls Tryz.prog 144 #[.agg #[.int .i64 g.a, .int .i64 g.b, .int .i64 g.c], .agg #[.int .i64 h.a, .int .i64 h.b, .int .i64 h.c]] w fun e w' => e = .returned (.bool v) ∧ Below w.heap.size w w' := by
  have HS := Lib.hid (show (if upB g != upB h then upB g else decide (0 < cross g h)) = v from e)
  have HC := Lib.hid (show g.a * h.b - h.a * g.b = cross g h by unfold cross; grind)
  have p1 := mul_bd kg.ba kh.bb
  have p2 := mul_bd kh.ba kg.bb
  clear e
  cases h1 : upB g <;> cases h2 : upB h
  all_goals
    go_enter Tryz.func144, Tryz.ntmps144
    go_wp2_with (first | (go_at_call 115; (first | (with_reducible refine (calls_ov2 (spec_HalfOk_true (by assumption))).mono ?_) | refine (calls_ov (spec_HalfOk_true (by assumption))).mono ?_); rintro e w' ⟨rfl, x, rfl⟩))
    ((first | (with_reducible refine wp_region_calm2 (by kernel_rfl) (by kernel_rfl) ?_) | refine wp_region_calm (by kernel_rfl) (by kernel_rfl) ?_); (repeat (go_big_quiet_step (first | (go_at_call 152; exact calm_below (l04Upper_t (by assumption))) | (go_at_call 152; exact calm_below (l04Upper_f (by assumption)))))); refine wpQuiet_nil ?_; rintro _ ⟨y, rfl⟩)
    go_wp2
    try ((first | (with_reducible refine wp_region_calm2 (by kernel_rfl) (by kernel_rfl) ?_) | refine wp_region_calm (by kernel_rfl) (by kernel_rfl) ?_); (repeat (go_big_quiet_step (first | (go_at_call 152; exact calm_below (l04Upper_t (by assumption))) | (go_at_call 152; exact calm_below (l04Upper_f (by assumption)))))); refine wpQuiet_nil ?_; rintro _ ⟨y, rfl⟩)
    try go_wp2
    go_ret
    exact ⟨ret_bool (by rw [← HS.out, h1, h2]; first | rfl | (rw [← HC.out]; exact decide_eq_decide.2 (by omega))), (by repeat (first | exact bR | refine bO ?_ | refine bA ?_ | refine bS ?_ | refine bD ?_ | refine bN ?_))⟩

theorem spec_SameDirection_eq {g h : H3} {v : Bool} {w : World} (kg : HOk g) (kh : HOk h) (e : sameDir g h = v) : Calls Tryz.prog 145 #[.agg #[.int .i64 g.a, .int .i64 g.b, .int .i64 g.c], .agg #[.int .i64 h.a, .int .i64 h.b, .int .i64 h.c]] w fun e w' => e = .returned (.bool v) ∧ Below w.heap.size w w' := by
  have p1 := mul_bd kg.ba kh.bb
  have p2 := mul_bd kh.ba kg.bb
  have p3 := mul_bd kg.ba kh.ba
  have p4 := mul_bd kg.bb kh.bb
  have HC := Lib.hid (show g.a * h.b - h.a * g.b = cross g h by unfold cross; grind)
  have d1 := fun x => dot_same kg.nz kh.nz (g := g) (h := h) x
  have d2 := fun x y => dot_opp kg.nz kh.nz (g := g) (h := h) x y
  by_cases hz : cross g h = 0
  · have ez : (g.a * h.b == h.a * g.b) = true := by have := HC.out; simp; omega
    have HD := Lib.hid (show (decide (0 < g.a * h.a + g.b * h.b)) = v by
      cases v with
      | true => simpa using d1 e
      | false => have := d2 hz e; simp; omega)
    clear hz d1 d2 e
    go_enter Tryz.func145, Tryz.ntmps145
    go_wp2_with (first | (go_at_call 115; (first | (with_reducible refine (calls_ov2 (spec_HalfOk_true (by assumption))).mono ?_) | refine (calls_ov (spec_HalfOk_true (by assumption))).mono ?_); rintro e w' ⟨rfl, x, rfl⟩))
    go_ret
    exact ⟨ret_bool HD.out, (by repeat (first | exact bR | refine bO ?_ | refine bA ?_ | refine bS ?_ | refine bD ?_ | refine bN ?_))⟩
  · have ez : (g.a * h.b == h.a * g.b) = false := by have := HC.out; simp; omega
    have HD := Lib.hid (show false = v by
      rw [← e]; unfold sameDir; simp [hz])
    clear hz d1 d2 e
    go_enter Tryz.func145, Tryz.ntmps145
    go_wp2_with (first | (go_at_call 115; (first | (with_reducible refine (calls_ov2 (spec_HalfOk_true (by assumption))).mono ?_) | refine (calls_ov (spec_HalfOk_true (by assumption))).mono ?_); rintro e w' ⟨rfl, x, rfl⟩))
    go_ret
    exact ⟨ret_bool HD.out, (by repeat (first | exact bR | refine bO ?_ | refine bA ?_ | refine bS ?_ | refine bD ?_ | refine bN ?_))⟩

theorem l1_ite (x : H3) : l1H x = ((if x.a < -x.a then -x.a else x.a) + if x.b < -x.b then -x.b else x.b) := by unfold l1H; omega

set_option maxHeartbeats 2000000 in
theorem spec_TighterHalf_any {g hq : H3} {w : World} (kg : HOk g) (kh : HOk hq) (e : sameDir g hq = true) : Calls Tryz.prog 146 #[.agg #[.int .i64 g.a, .int .i64 g.b, .int .i64 g.c], .agg #[.int .i64 hq.a, .int .i64 hq.b, .int .i64 hq.c]] w fun e w' => e = .returned (.agg #[.int .i64 (tighter g hq).a, .int .i64 (tighter g hq).b, .int .i64 (tighter g hq).c]) ∧ Below w.heap.size w w' := by
  obtain ⟨ga1, ga2⟩ := kg.ba
  obtain ⟨gb1, gb2⟩ := kg.bb
  obtain ⟨ha1, ha2⟩ := kh.ba
  obtain ⟨hb1, hb2⟩ := kh.bb
  have u := mul_bd (x := hq.c) (y := ((if g.a < -g.a then -g.a else g.a) + if g.b < -g.b then -g.b else g.b)) (A := 100000000) (B := 100000) kh.bc (by rw [← l1_ite]; unfold l1H; omega)
  have v := mul_bd (x := g.c) (y := ((if hq.a < -hq.a then -hq.a else hq.a) + if hq.b < -hq.b then -hq.b else hq.b)) (A := 100000000) (B := 100000) kg.bc (by rw [← l1_ite]; unfold l1H; omega)
  have HS := Lib.hid e
  have HT := Lib.hid (tighter_l1 kg.nz kh.nz e)
  have HL := Lib.hid (show (tighter g hq = hq ∧ hq.c * sizeH g < g.c * sizeH hq) ∨ (tighter g hq = g ∧ ¬ hq.c * sizeH g < g.c * sizeH hq) by unfold tighter; split <;> simp_all)
  clear e
  rcases HL.out with ⟨e1, e2⟩ | ⟨e1, e2⟩
  · rw [e1]
    have hd : hq.c * ((if g.a < -g.a then -g.a else g.a) + if g.b < -g.b then -g.b else g.b) < g.c * ((if hq.a < -hq.a then -hq.a else hq.a) + if hq.b < -hq.b then -hq.b else hq.b) := by rw [← l1_ite, ← l1_ite, HT.out]; exact e2
    clear e1 e2 HL HT
    go_enter Tryz.func146, Tryz.ntmps146
    go_wp2_with (first | (go_at_call 145; (first | (with_reducible refine (calls_ov2 (spec_SameDirection_eq kg kh HS.out)).mono ?_) | refine (calls_ov (spec_SameDirection_eq kg kh HS.out)).mono ?_); rintro e w' ⟨rfl, x, rfl⟩))
    all_goals
      exact bodyPost_ret (v := .agg #[.int .i64 hq.a, .int .i64 hq.b, .int .i64 hq.c]) (by simp [results, Tryz.results146, go_sem]) rfl ⟨rfl, (by repeat (first | exact bR | refine bO ?_ | refine bA ?_ | refine bS ?_ | refine bD ?_ | refine bN ?_))⟩
  · rw [e1]
    have hd : ¬ hq.c * ((if g.a < -g.a then -g.a else g.a) + if g.b < -g.b then -g.b else g.b) < g.c * ((if hq.a < -hq.a then -hq.a else hq.a) + if hq.b < -hq.b then -hq.b else hq.b) := by rw [← l1_ite, ← l1_ite, HT.out]; exact e2
    clear e1 e2 HL HT
    go_enter Tryz.func146, Tryz.ntmps146
    go_wp2_with (first | (go_at_call 145; (first | (with_reducible refine (calls_ov2 (spec_SameDirection_eq kg kh HS.out)).mono ?_) | refine (calls_ov (spec_SameDirection_eq kg kh HS.out)).mono ?_); rintro e w' ⟨rfl, x, rfl⟩))
    all_goals
      exact bodyPost_ret (v := .agg #[.int .i64 g.a, .int .i64 g.b, .int .i64 g.c]) (by simp [results, Tryz.results146, go_sem]) rfl ⟨rfl, (by repeat (first | exact bR | refine bO ?_ | refine bA ?_ | refine bS ?_ | refine bD ?_ | refine bN ?_))⟩
end Go.Proofs.YtabmfaamadbefaaGreat
/- Contract of the reference's l05Sorted: it sorts. Condition: the half planes are valid, and few. -/
set_option linter.unusedSimpArgs false
set_option linter.unusedVariables false
set_option linter.unusedSectionVars false
namespace Go.Proofs.YtabmfaamadbefaaGreat
open Go.RowKit
theorem row_ne_box {w : World} {g b c : Nat} {E T : TypeId} {os : List H3} {x h : H3} {cur : Array Value} (hg : w.heap[g]? = some (.cells cur E (0, 0))) (hs : cur.size = c * 3) (ht : cur.toList.take ((os ++ [x]).length * 3) = cells3 (os ++ [x])) (hb : w.heap[b]? = some (.cells #[.int .i64 h.a, .int .i64 h.b, .int .i64 h.c] T (0, 0))) (hn : NZ h) (hc : os.length + 1 ≤ c) (hx : x.a = 0 ∧ x.b = 0 := by exact ⟨rfl, rfl⟩) : g ≠ b := by
  rintro rfl
  rw [hg] at hb
  injection hb with hb
  injection hb with hb _
  subst hb
  have h1 : os.length = 0 := by simp at hs; omega
  have h2 : os = [] := List.length_eq_zero_iff.1 h1
  subst h2
  simp [cells3] at ht
  rcases hn with h | h
  · exact h (ht.1.trans hx.1)
  · exact h (ht.2.1.trans hx.2)
theorem shift_get {os : List H3} {y : H3} {p : Nat} (hp : p < os.length) : (os.take (p + 1) ++ y :: os.drop (p + 1))[p]? = some os[p] := by
  rw [List.getElem?_append_left (by simp; omega)]
  simp [List.getElem?_take, hp]
theorem shift_set {os : List H3} {y : H3} {p : Nat} (hp : p < os.length) : (os.take (p + 1) ++ y :: os.drop (p + 1)).set (p + 1) os[p] = os.take p ++ os[p] :: os.drop p := by
  have hl : (os.take (p + 1)).length = p + 1 := by simp; omega
  rw [List.set_append_right (h := by omega), hl, Nat.sub_self, List.set_cons_zero, List.take_succ_eq_append_getElem hp, List.append_assoc, List.singleton_append]
  congr 1
  congr 1
  rw [List.drop_eq_getElem_cons hp]
theorem fin_set {os : List H3} {x y : H3} {j : Nat} (hj : j ≤ os.length) : (os.take j ++ y :: os.drop j).set j x = os.take j ++ x :: os.drop j := by
  have hl : (os.take j).length = j := by simp; omega
  rw [List.set_append_right (h := by omega), hl, Nat.sub_self, List.set_cons_zero]

set_option maxRecDepth 100000 in
set_option maxHeartbeats 4000000 in
theorem l05Sorted_any {hs : List H3} {A : Option Addr} {c : Nat} {w : World} (G : ∀ g ∈ hs, HOk g) (R : R3 44 w A c hs) (hl : hs.length ≤ 500) :
    Calls Tryz.prog 133 #[.slice A hs.length c] w (InsPost w.heap.size w (sortH hs)) := by
  obtain ⟨i0, hi, hz0, hz1, hz2⟩ := info_parts info_half
  go_enter Tryz.func133, Tryz.ntmps133
  go_wp2
  go_loopw [3, 11] (fun o i wr => ∃ (k : Nat) (os : List H3) (A' : Option Addr) (c' : Nat), k ≤ hs.length ∧ i = .int .i64 k ∧ o = .slice A' os.length c' ∧ Hid (os = sortH (hs.take k)) ∧ RB w.heap.size 44 wr A' c' os ∧ Below w.heap.size w wr) (fun _ i _ => hs.length - (intOf i).toNat)
  case atStart => exact ⟨0, [], some ⟨w.heap.size, 0, none⟩, 0, Nat.zero_le _, rfl, rfl, rfl, ⟨rfl, .inr ⟨w.heap.size, 0, _, rfl, Nat.le_refl _, heap_alloc_new _ _, Nat.le_refl _, by unfold maxLen; omega, rfl, rfl⟩⟩, (Below.refl _ _).alloc (Nat.le_refl _) _⟩
  case round =>
    obtain ⟨k, os, A', c', hk, rfl, rfl, HO, RO, hb⟩ := hrel
    obtain ⟨wo, rfl⟩ : ∃ wo : World, wo = wr := ⟨_, rfl⟩
    by_cases hlt : k < hs.length
    · obtain ⟨g0, rfl, hg0, z0, z1, z2⟩ := (R.below hb).at_ hlt
      have kh := G _ (List.getElem_mem hlt)
      have okO : ∀ g ∈ os, HOk g := fun g hg => G g (List.mem_of_mem_take (sortH_mem (fun x hx => (G x (List.mem_of_mem_take hx)).nz) (HO.out ▸ hg)))
      have lo : os.length ≤ 500 := by rw [HO.out]; have := sortH_length (hs.take k); rw [List.length_take] at this; omega
      have hbs := hb.size
      go_wp2
      go_loopw [6] (fun t wi => ∃ j : Nat, j ≤ os.length ∧ t = .int .i64 j ∧ Hid (∀ i (hi : i < os.length), i < j → before os[i] hs[k] = true) ∧ Below (wo.heap.size + 1) (wo.alloc (.cells #[.int .i64 hs[k].a, .int .i64 hs[k].b, .int .i64 hs[k].c] 44)) wi) (fun t _ => os.length - (intOf t).toNat)
      case atStart => exact ⟨0, Nat.zero_le _, rfl, fun i hi h0 => by omega, Below.refl _ _⟩
      case round =>
        obtain ⟨j, hj, rfl, HB, hbi⟩ := hrel
        have hbw : Below wo.heap.size wo wr := ((Below.refl _ _).alloc (Nat.le_refl _) _).trans (hbi.mono (by omega))
        have RI := RO.below hbw
        have hbW : Below w.heap.size w wr := hb.trans (hbw.mono hbs)
        have szi := hbi.size
        have hbox : wr.heap[wo.heap.size]? = some (.cells #[.int .i64 hs[k].a, .int .i64 hs[k].b, .int .i64 hs[k].c] 44 (0, 0)) := (hbi.block _ (by omega)).trans (heap_alloc_new _ _)
        have q0 := cell_blk (j := 0) hbox rfl
        have q1 := cell_blk (j := 1) hbox rfl
        have q2 := cell_blk (j := 2) hbox rfl
        have ql := (Array.getElem?_eq_some_iff.1 hbox).1
        have HX := Lib.hid hbox
        clear hbox
        by_cases hlj : j < os.length
        · obtain ⟨gi, eA, hgi, y0, y1, y2⟩ := RI.r3.at_ hlj
          have oj := okO _ (List.getElem_mem hlj)
          cases hbe : before os[j] hs[k] with
          | true =>
            go_wp2
            ((first | (with_reducible refine wp_region_calm2 (by kernel_rfl) (by kernel_rfl) ?_) | refine wp_region_calm (by kernel_rfl) (by kernel_rfl) ?_); (repeat (go_big_quiet_step (first | (go_at_call 144; exact calm_below (spec_BeforeAngle_eq oj kh hbe))))); refine wpQuiet_nil ?_; rintro _ ⟨y, rfl⟩)
            go_wp2
            go_roundw
            case rel => exact ⟨j + 1, by omega, by go_num, Lib.hid (fun i hi h => by
              by_cases e : i = j
              · subst e; exact hbe
              · exact HB.out i hi (by omega)), below_ov _ _ hbi (by simpa using szi)⟩
            case measure => simp [intOf] <;> omega
          | false =>
            have HS := Lib.hid (sortH_succ hs k hlt)
            cases hsd : sameDir os[j] hs[k] with
            | true =>
              have HT := Lib.hid (insH_set hs[k] os j hlj HB.out hbe hsd)
              obtain ⟨g', cur, e', _, _, hgh, _⟩ := RI.row (by omega)
              obtain rfl : g' = gi := by rw [eA] at e'; injection e' with e'; injection e' with e'; exact e'.symm
              have f0 := frozen_blk (j := j * 3) hgh
              have f1 := frozen_blk (j := j * 3 + 1) hgh
              have f2 := frozen_blk (j := j * 3 + 2) hgh
              clear hgh e'
              go_wp2
              ((first | (with_reducible refine wp_region_calm2 (by kernel_rfl) (by kernel_rfl) ?_) | refine wp_region_calm (by kernel_rfl) (by kernel_rfl) ?_); (repeat (go_big_quiet_step (first | (go_at_call 144; exact calm_below (spec_BeforeAngle_eq oj kh hbe))))); refine wpQuiet_nil ?_; rintro _ ⟨y, rfl⟩)
              go_wp2
              ((first | (with_reducible refine wp_region_calm2 (by kernel_rfl) (by kernel_rfl) ?_) | refine wp_region_calm (by kernel_rfl) (by kernel_rfl) ?_); (repeat (go_big_quiet_step (first | (go_at_call 145; exact calm_below (spec_SameDirection_eq oj kh hsd))))); refine wpQuiet_nil ?_; rintro _ ⟨y, rfl⟩)
              go_wp2
              (refine wp_region_calm_tail 9 (by kernel_rfl) (by kernel_rfl) ?_; simp only [List.take_succ_cons, List.take_zero, List.drop_succ_cons, List.drop_zero]; (repeat (go_big_quiet_step (first | (go_at_call 146; exact calm_below (spec_TighterHalf_any oj kh hsd))))); refine wpQuiet_nil ?_; rintro _ ⟨y, rfl⟩)
              go_wp2
              go_roundw
              case rel => exact ⟨k + 1, os.set j (tighter os[j] hs[k]), A', c', by omega, by go_num, by rw [List.length_set, eA], Lib.hid (by rw [HS.out, ← HO.out, HT.out]), ((RI.set_ eA hlj (tighter os[j] hs[k])).1.below (below_ov _ _ (Below.refl _ _) (Nat.le_refl _))).below (below_ov _ _ (Below.refl _ _) (Nat.le_refl _)), below_ov _ _ (below_ov _ _ ((RI.set_ eA hlj (tighter os[j] hs[k])).2 hbW) (by simp; omega)) (by simp [ov_size]; omega)⟩
              case measure => simp [intOf] <;> omega
            | false =>
              subst eA
              have HT := Lib.hid (insH_new hs[k] os j hlj HB.out hbe hsd)
              go_wp2
              ((first | (with_reducible refine wp_region_calm2 (by kernel_rfl) (by kernel_rfl) ?_) | refine wp_region_calm (by kernel_rfl) (by kernel_rfl) ?_); (repeat (go_big_quiet_step (first | (go_at_call 144; exact calm_below (spec_BeforeAngle_eq oj kh hbe))))); refine wpQuiet_nil ?_; rintro _ ⟨y, rfl⟩)
              go_wp2
              ((first | (with_reducible refine wp_region_calm2 (by kernel_rfl) (by kernel_rfl) ?_) | refine wp_region_calm (by kernel_rfl) (by kernel_rfl) ?_); (repeat (go_big_quiet_step (first | (go_at_call 145; exact calm_below (spec_SameDirection_eq oj kh hsd))))); refine wpQuiet_nil ?_; rintro _ ⟨y, rfl⟩)
              go_wp2_with (at_builtin; refine wpList_append_own _ rfl _ _ 24 rfl w.heap.size 44 i0 (.agg #[.int .i64 0, .int .i64 0, .int .i64 0]) 3 24 Tryz.underlying24 hi hz0 hz1 hz2 rfl (by decide) _ _ _ rfl (RI.below (by repeat (first | exact bR | refine bO ?_ | refine bA ?_ | refine bS ?_ | refine bD ?_ | refine bN ?_))) ⟨_, 0, none⟩ 1 1 (cells3 [⟨0, 0, 0⟩]) rfl rfl (news_at (x := ⟨0, 0, 0⟩) (heap_alloc_new _ _)) (cells3_one _) (by unfold maxLen; omega) (by omega) (by have := hbW.size; simp [ov_size]; omega) ?_; intro v2 w2 O2 hg2 _; obtain ⟨A5, c5, rfl, RO5⟩ := own_slice1 O2; have HG := Lib.hid hg2; clear hg2 O2)
              have hb2 : Below w.heap.size w w2 := grown_below (by repeat (first | exact hbW | refine bO ?_ | refine bA ?_ | refine bS ?_ | refine bD ?_ | refine bN ?_)) HG.out (fun k hk => (RI.lt k hk).1) (Nat.le_refl _)
              have HX2 := Lib.hid ((HG.out.block _ (by simp [ov_size]; omega) (fun e => by have := (RO.lt _ e.symm).2; omega)).trans (alloc_blk (ov_blk HX.out)))
              obtain ⟨g5, cur5, rfl, hg5, hgl5, hgh5, hr5⟩ := RO5.row (by simp)
              have hne5 : g5 ≠ wo.heap.size := row_ne_box hgh5 hr5.2.2.1 hr5.2.2.2 HX2.out kh.nz (by rw [List.length_append] at hr5; simpa using hr5.1)
              clear hgh5 hr5 HG
              go_loopw [7] (fun t wl => ∃ (m : Nat) (y : H3), j ≤ m ∧ m ≤ os.length ∧ t = .int .i64 m ∧ RB w.heap.size 44 wl (some ⟨g5, 0, none⟩) c5 (os.take m ++ y :: os.drop m) ∧ Hid (wl.heap[wo.heap.size]? = some (.cells #[.int .i64 hs[k].a, .int .i64 hs[k].b, .int .i64 hs[k].c] 44 (0, 0))) ∧ Below w.heap.size w wl) (fun t _ => (intOf t).toNat - j)
              case atStart => exact ⟨os.length, ⟨0, 0, 0⟩, by omega, Nat.le_refl _, by go_num, by rw [List.take_length, List.drop_length]; exact RO5, HX2, hb2⟩
              case round =>
                obtain ⟨m, y5, hm1, hm2, rfl, RM, HXm, hbm⟩ := hrel
                have hx0 := cell_blk (j := 0) HXm.out rfl
                have hx1 := cell_blk (j := 1) HXm.out rfl
                have hx2 := cell_blk (j := 2) HXm.out rfl
                have hml : (os.take m ++ y5 :: os.drop m).length = os.length + 1 := by simp; omega
                obtain ⟨g6, cur6, e6, _, hgl6, hgh6, _⟩ := RM.row (by omega)
                obtain rfl : g6 = g5 := by injection e6 with e6; injection e6 with e6; exact e6.symm
                clear e6
                by_cases hmj : j = m
                · subst hmj
                  have f0 := frozen_blk (j := j * 3) hgh6
                  have f1 := frozen_blk (j := j * 3 + 1) hgh6
                  have f2 := frozen_blk (j := j * 3 + 2) hgh6
                  obtain ⟨g7, e7, _, c0, c1, c2⟩ := RM.r3.at_ (k := j) (by omega)
                  obtain rfl : g7 = g6 := by injection e7 with e7; injection e7 with e7; exact e7.symm
                  clear e7 hgh6
                  have S1 := RM.set_ rfl (j := j) (by omega) hs[k]
                  rw [fin_set hj] at S1
                  have HS1 := Lib.hid S1
                  clear S1
                  go_wp2
                  go_roundw
                  case rel => exact ⟨k + 1, os.take j ++ hs[k] :: os.drop j, some ⟨g7, 0, none⟩, c5, by omega, by go_num, by simp; omega, Lib.hid (by rw [HS.out, ← HO.out, HT.out]), HS1.out.1, HS1.out.2 hbm⟩
                  case measure => simp [intOf] <;> omega
                · obtain ⟨p, rfl⟩ : ∃ p, m = p + 1 := ⟨m - 1, by omega⟩
                  have f0 := frozen_blk (j := (p + 1) * 3) hgh6
                  have f1 := frozen_blk (j := (p + 1) * 3 + 1) hgh6
                  have f2 := frozen_blk (j := (p + 1) * 3 + 2) hgh6
                  obtain ⟨g7, e7, _, c0, c1, c2⟩ := RM.r3.at_ (k := p + 1) (by omega)
                  obtain rfl : g7 = g6 := by injection e7 with e7; injection e7 with e7; exact e7.symm
                  obtain ⟨g8, e8, _, d0, d1, d2⟩ := RM.r3.at_ (k := p) (by omega)
                  obtain rfl : g8 = g7 := by injection e8 with e8; injection e8 with e8; exact e8.symm
                  clear e7 e8 hgh6
                  have eg : (os.take (p + 1) ++ y5 :: os.drop (p + 1))[p]'(by omega) = os[p]'(by omega) := by
                    have := shift_get (os := os) (y := y5) (p := p) (by omega)
                    rw [List.getElem?_eq_getElem (by omega)] at this
                    simpa using this
                  rw [eg] at d0 d1 d2
                  clear eg
                  have S1 := RM.set_ rfl (j := p + 1) (by omega) (os[p]'(by omega))
                  rw [shift_set (by omega)] at S1
                  have HS1 := Lib.hid S1
                  clear S1
                  go_wp2
                  go_roundw
                  case rel => exact ⟨p, os[p]'(by omega), by omega, by omega, by go_num, HS1.out.1, Lib.hid ((heap_setCell_other _ _ _ _ hne5.symm).trans ((heap_setCell_other _ _ _ _ hne5.symm).trans ((heap_setCell_other _ _ _ _ hne5.symm).trans HXm.out))), HS1.out.2 hbm⟩
                  case measure => simp [intOf] <;> omega
        · have je : j = os.length := by omega
          have HS := Lib.hid (sortH_succ hs k hlt)
          have HT : Hid (insH os hs[k] = os.take j ++ hs[k] :: os.drop j) := Lib.hid (by subst je; exact insH_end hs[k] os HB.out)
          clear je
          go_wp2
          ((first | (with_reducible refine wp_region_calm2 (by kernel_rfl) (by kernel_rfl) ?_) | refine wp_region_calm (by kernel_rfl) (by kernel_rfl) ?_); (repeat (go_big_quiet_step (first | fail))); refine wpQuiet_nil ?_; rintro _ ⟨y, rfl⟩)
          go_wp2
          ((first | (with_reducible refine wp_region_calm2 (by kernel_rfl) (by kernel_rfl) ?_) | refine wp_region_calm (by kernel_rfl) (by kernel_rfl) ?_); (repeat (go_big_quiet_step (first | fail))); refine wpQuiet_nil ?_; rintro _ ⟨y, rfl⟩)
          clear hlj
          go_wp2_with (at_builtin; refine wpList_append_own _ rfl _ _ 24 rfl w.heap.size 44 i0 (.agg #[.int .i64 0, .int .i64 0, .int .i64 0]) 3 24 Tryz.underlying24 hi hz0 hz1 hz2 rfl (by decide) _ _ _ rfl (RI.below (by repeat (first | exact bR | refine bO ?_ | refine bA ?_ | refine bS ?_ | refine bD ?_ | refine bN ?_))) ⟨_, 0, none⟩ 1 1 (cells3 [⟨0, 0, 0⟩]) rfl rfl (news_at (x := ⟨0, 0, 0⟩) (heap_alloc_new _ _)) (cells3_one _) (by unfold maxLen; omega) (by omega) (by have := hbW.size; simp [ov_size]; omega) ?_; intro v2 w2 O2 hg2 _; obtain ⟨A5, c5, rfl, RO5⟩ := own_slice1 O2; have HG := Lib.hid hg2; clear hg2 O2)
          have hb2 : Below w.heap.size w w2 := grown_below (by repeat (first | exact hbW | refine bO ?_ | refine bA ?_ | refine bS ?_ | refine bD ?_ | refine bN ?_)) HG.out (fun k hk => (RI.lt k hk).1) (Nat.le_refl _)
          have HX2 := Lib.hid ((HG.out.block _ (by simp [ov_size]; omega) (fun e => by have := (RO.lt _ e.symm).2; omega)).trans (alloc_blk (ov_blk HX.out)))
          obtain ⟨g5, cur5, rfl, hg5, hgl5, hgh5, hr5⟩ := RO5.row (by simp)
          have hne5 : g5 ≠ wo.heap.size := row_ne_box hgh5 hr5.2.2.1 hr5.2.2.2 HX2.out kh.nz (by rw [List.length_append] at hr5; simpa using hr5.1)
          clear hgh5 hr5 HG
          go_loopw [7] (fun t wl => ∃ (m : Nat) (y : H3), j ≤ m ∧ m ≤ os.length ∧ t = .int .i64 m ∧ RB w.heap.size 44 wl (some ⟨g5, 0, none⟩) c5 (os.take m ++ y :: os.drop m) ∧ Hid (wl.heap[wo.heap.size]? = some (.cells #[.int .i64 hs[k].a, .int .i64 hs[k].b, .int .i64 hs[k].c] 44 (0, 0))) ∧ Below w.heap.size w wl) (fun t _ => (intOf t).toNat - j)
          case atStart => exact ⟨os.length, ⟨0, 0, 0⟩, by omega, Nat.le_refl _, by go_num, by rw [List.take_length, List.drop_length]; exact RO5, HX2, hb2⟩
          case round =>
            obtain ⟨m, y5, hm1, hm2, rfl, RM, HXm, hbm⟩ := hrel
            have hx0 := cell_blk (j := 0) HXm.out rfl
            have hx1 := cell_blk (j := 1) HXm.out rfl
            have hx2 := cell_blk (j := 2) HXm.out rfl
            have hml : (os.take m ++ y5 :: os.drop m).length = os.length + 1 := by simp; omega
            obtain ⟨g6, cur6, e6, _, hgl6, hgh6, _⟩ := RM.row (by omega)
            obtain rfl : g6 = g5 := by injection e6 with e6; injection e6 with e6; exact e6.symm
            clear e6
            by_cases hmj : j = m
            · subst hmj
              have f0 := frozen_blk (j := j * 3) hgh6
              have f1 := frozen_blk (j := j * 3 + 1) hgh6
              have f2 := frozen_blk (j := j * 3 + 2) hgh6
              obtain ⟨g7, e7, _, c0, c1, c2⟩ := RM.r3.at_ (k := j) (by omega)
              obtain rfl : g7 = g6 := by injection e7 with e7; injection e7 with e7; exact e7.symm
              clear e7 hgh6
              have S1 := RM.set_ rfl (j := j) (by omega) hs[k]
              rw [fin_set hj] at S1
              have HS1 := Lib.hid S1
              clear S1
              go_wp2
              go_roundw
              case rel => exact ⟨k + 1, os.take j ++ hs[k] :: os.drop j, some ⟨g7, 0, none⟩, c5, by omega, by go_num, by simp; omega, Lib.hid (by rw [HS.out, ← HO.out, HT.out]), HS1.out.1, HS1.out.2 hbm⟩
              case measure => simp [intOf] <;> omega
            · obtain ⟨p, rfl⟩ : ∃ p, m = p + 1 := ⟨m - 1, by omega⟩
              have f0 := frozen_blk (j := (p + 1) * 3) hgh6
              have f1 := frozen_blk (j := (p + 1) * 3 + 1) hgh6
              have f2 := frozen_blk (j := (p + 1) * 3 + 2) hgh6
              obtain ⟨g7, e7, _, c0, c1, c2⟩ := RM.r3.at_ (k := p + 1) (by omega)
              obtain rfl : g7 = g6 := by injection e7 with e7; injection e7 with e7; exact e7.symm
              obtain ⟨g8, e8, _, d0, d1, d2⟩ := RM.r3.at_ (k := p) (by omega)
              obtain rfl : g8 = g7 := by injection e8 with e8; injection e8 with e8; exact e8.symm
              clear e7 e8 hgh6
              have eg : (os.take (p + 1) ++ y5 :: os.drop (p + 1))[p]'(by omega) = os[p]'(by omega) := by
                have := shift_get (os := os) (y := y5) (p := p) (by omega)
                rw [List.getElem?_eq_getElem (by omega)] at this
                simpa using this
              rw [eg] at d0 d1 d2
              clear eg
              have S1 := RM.set_ rfl (j := p + 1) (by omega) (os[p]'(by omega))
              rw [shift_set (by omega)] at S1
              have HS1 := Lib.hid S1
              clear S1
              go_wp2
              go_roundw
              case rel => exact ⟨p, os[p]'(by omega), by omega, by omega, by go_num, HS1.out.1, Lib.hid ((heap_setCell_other _ _ _ _ hne5.symm).trans ((heap_setCell_other _ _ _ _ hne5.symm).trans ((heap_setCell_other _ _ _ _ hne5.symm).trans HXm.out))), HS1.out.2 hbm⟩
              case measure => simp [intOf] <;> omega
    · obtain rfl : k = hs.length := by omega
      rw [List.take_length] at HO
      go_wp2
      go_ret
      obtain rfl := HO.out
      exact ⟨A', c', rfl, RO, hb⟩
end Go.Proofs.YtabmfaamadbefaaGreat