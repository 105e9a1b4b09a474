/- FnExactErodeRegion returns true for every argument, and leaves it as it was. No condition. -/
import Derived.Test.YtgdleimdenbnlaaEs
set_option linter.unusedVariables false
set_option linter.unusedSimpArgs false
set_option linter.unusedSectionVars false
namespace Go.Proofs.Ytgdleimdenbnlaa
open Go.ChangeShapes Go.WideShapes Go.ChangeAt Go.RowKit Go.Joins

set_option maxRecDepth 100000 in
set_option maxHeartbeats 8000000 in
theorem law27_any {p : List H3} {Ap : Option Addr} {cp : Nat} {q : List H3} {Aq : Option Addr} {cq : Nat} (w : World) (Rp : RL w Ap p) (hlp : p.length ≤ 9223372036854775807) (Rq : RL w Aq q) (hlq : q.length ≤ 9223372036854775807) :
    Calls Try.prog 9 #[.agg #[.slice Ap p.length cp], .agg #[.slice Aq q.length cq]] w fun e w' => e = .returned (.bool true) ∧ Below w.heap.size w w' := by
  obtain ⟨zp, hzp⟩ : ∃ z, szL p.length (1048576 : Int) = z := ⟨_, rfl⟩
  have HZp := Lib.hid hzp
  by_cases hcp : zp < 0
  · clear hzp
    go_enter Try.func9, Try.ntmps9
    go_wp2_with (first | (go_at_call 29; (first | (with_reducible refine (calls_ov2 (szRegion_eq (by exact HZp) (by omega) ⟨by omega, by omega⟩)).mono ?_) | refine (calls_ov (szRegion_eq (by exact HZp) (by omega) ⟨by omega, by omega⟩)).mono ?_); rintro e w' ⟨rfl, x, rfl⟩))
    go_ret
    exact ⟨rfl, (by repeat (first | exact Below.refl _ _ | refine below_ov _ _ ?_ (by first | omega | (simp [ov_size] <;> omega)) | refine Below.alloc ?_ (by first | omega | (simp [ov_size] <;> omega)) _ | refine Below.setCell ?_ (by first | omega | (simp [ov_size] <;> omega)) _ | refine Below.drew ?_ | refine below_drewN ?_ _))⟩
  have hmp : p.length ≤ 1048576 ∧ zp ≤ 1048576 := by unfold szL at hzp; split at hzp <;> omega
  have hmmp := hmp.1
  have hzbp := hmp.2
  clear hmp
  obtain ⟨zq, hzq⟩ : ∃ z, szL q.length zp = z := ⟨_, rfl⟩
  have HZq := Lib.hid hzq
  by_cases hcq : zq < 0
  · clear hzp hzq
    go_enter Try.func9, Try.ntmps9
    go_wp2_with (first | (go_at_call 29; (first | (with_reducible refine (calls_ov2 (szRegion_eq (by exact HZp) (by omega) ⟨by omega, by omega⟩)).mono ?_) | refine (calls_ov (szRegion_eq (by exact HZp) (by omega) ⟨by omega, by omega⟩)).mono ?_); rintro e w' ⟨rfl, x, rfl⟩) | (go_at_call 29; (first | (with_reducible refine (calls_ov2 (szRegion_eq (by exact HZq) (by omega) ⟨by omega, by omega⟩)).mono ?_) | refine (calls_ov (szRegion_eq (by exact HZq) (by omega) ⟨by omega, by omega⟩)).mono ?_); rintro e w' ⟨rfl, x, rfl⟩))
    go_ret
    exact ⟨rfl, (by repeat (first | exact Below.refl _ _ | refine below_ov _ _ ?_ (by first | omega | (simp [ov_size] <;> omega)) | refine Below.alloc ?_ (by first | omega | (simp [ov_size] <;> omega)) _ | refine Below.setCell ?_ (by first | omega | (simp [ov_size] <;> omega)) _ | refine Below.drew ?_ | refine below_drewN ?_ _))⟩
  have hmq : q.length ≤ 1048576 ∧ zq ≤ 1048576 := by unfold szL at hzq; split at hzq <;> omega
  have hmmq := hmq.1
  have hzbq := hmq.2
  clear hmq
  obtain ⟨⟨out, ok⟩, hr⟩ : ∃ r, erodeR p q = r := ⟨_, rfl⟩
  have ho := erodeR_short hr
  have HR := Lib.hid hr
  have ORp := owned_reg p
  have ORq := owned_reg q
  have OO := owned_reg out
  have OT := owned_tup out ok
  clear hr hzp hzq
  have hne : (ok != ok) = false := by simp
  go_enter Try.func9, Try.ntmps9
  go_wp2_with (first | (go_at_call 29; (first | (with_reducible refine (calls_ov2 (szRegion_eq (by exact HZp) (by omega) ⟨by omega, by omega⟩)).mono ?_) | refine (calls_ov (szRegion_eq (by exact HZp) (by omega) ⟨by omega, by omega⟩)).mono ?_); rintro e w' ⟨rfl, x, rfl⟩) | (go_at_call 29; (first | (with_reducible refine (calls_ov2 (szRegion_eq (by exact HZq) (by omega) ⟨by omega, by omega⟩)).mono ?_) | refine (calls_ov (szRegion_eq (by exact HZq) (by omega) ⟨by omega, by omega⟩)).mono ?_); rintro e w' ⟨rfl, x, rfl⟩))
  obtain ⟨V, hV⟩ : ∃ V, ((w.alloc (.cells #[.slice Ap p.length cp] 25)).alloc (.cells #[.slice Aq q.length cq] 25)) = V := ⟨_, rfl⟩
  have TV : Below w.heap.size w V := by rw [← hV]; exact (by repeat (first | exact Below.refl _ _ | refine below_ov _ _ ?_ (by first | omega | (simp [ov_size] <;> omega)) | refine Below.alloc ?_ (by first | omega | (simp [ov_size] <;> omega)) _ | refine Below.setCell ?_ (by first | omega | (simp [ov_size] <;> omega)) _ | refine Below.drew ?_ | refine below_drewN ?_ _))
  have X0 : V.heap[w.heap.size]? = some (.cells #[.slice Ap p.length cp] 25 (0, 0)) := by rw [← hV]; exact ((heap_old_at (by simp)).trans (heap_new_at (by simp) rfl))
  have X1 : V.heap[w.heap.size + 1]? = some (.cells #[.slice Aq q.length cq] 25 (0, 0)) := by rw [← hV]; exact (heap_new_at (by simp) rfl)
  rw [hV]
  clear hV
  generalize w.heap.size + 1 = ba1 at X1 ⊢
  obtain ⟨W0, hW⟩ : ∃ W0, W0 = ov V x := ⟨_, rfl⟩
  rw [← hW]
  have T : Below V.heap.size V W0 := by rw [hW]; exact (by repeat (first | exact Below.refl _ _ | refine below_ov _ _ ?_ (by first | omega | (simp [ov_size] <;> omega)) | refine Below.alloc ?_ (by first | omega | (simp [ov_size] <;> omega)) _ | refine Below.setCell ?_ (by first | omega | (simp [ov_size] <;> omega)) _ | refine Below.drew ?_ | refine below_drewN ?_ _))
  clear hW
  have Bp := box_below (Lib.hid X0) T
  clear X0
  have Bq := box_below (Lib.hid X1) T
  clear X1
  have s0 : w.heap.size ≤ V.heap.size := TV.size
  have Sp := Rp.below (TV.trans (T.mono s0))
  have Sq := Rq.below (TV.trans (T.mono s0))
  have Bpc0 := cell_blk (j := 0) (v := .slice Ap p.length cp) Bp.out rfl
  have Bpl := (Array.getElem?_eq_some_iff.1 Bp.out).1
  have Bqc0 := cell_blk (j := 0) (v := .slice Aq q.length cq) Bq.out rfl
  have Bql := (Array.getElem?_eq_some_iff.1 Bq.out).1
  refine wp_region_rel [.pur [] ?d1c0, .rel [] [1] false (IsOw (GReg p)), .pur [] ?d1c2, .rel [] [3] false (IsOw (GReg q)), .rel [1, 3] [4] false (IsOw (GTup out ok)), .rel [4] [5] false (IsOw (GTup out ok)), .rel [5] [6] false (IsOw (GReg out)), .pur [5] ?d1c7, .rel [] [8] false (IsAl 34 1), .rel [8, 6] [8, 6] true (IsSt 34), .pur [] ?d1c10] _ rfl rfl (by kernel_rfl) (by kernel_rfl) ?hstd1 (fun vs => ?walkd1)
  case' walkd1 =>
    (refine wpRel_pur rfl rfl (fun x => by ((go_wp2); refine relEnd_pur rfl ?_ (by repeat (first | exact Below.refl _ _ | refine below_ov _ _ ?_ (by first | omega | (simp [ov_size] <;> omega)) | refine Below.alloc ?_ (by first | omega | (simp [ov_size] <;> omega)) _ | refine Below.setCell ?_ (by first | omega | (simp [ov_size] <;> omega)) _ | refine Below.drew ?_ | refine below_drewN ?_ _)); simp only [Act.put, List.setIfInBounds_toArray, List.set_cons_succ, List.set_cons_zero]; rfl)) ?_; simp only [Act.put, List.setIfInBounds_toArray, List.set_cons_succ, List.set_cons_zero])
    refine wpRel_own rfl rfl rfl (fun x hh => ?_) ?_
    · go_wp2_with fail
      refine (toRegion_any (Sp.below (by repeat (first | exact Below.refl _ _ | refine below_ov _ _ ?_ (by first | omega | (simp [ov_size] <;> omega)) | refine Below.alloc ?_ (by first | omega | (simp [ov_size] <;> omega)) _ | refine Below.setCell ?_ (by first | omega | (simp [ov_size] <;> omega)) _ | refine Below.drew ?_ | refine below_drewN ?_ _))) (by omega)).mono ?_
      rintro e w7 ⟨a7, d7, rfl, Q7, hb7⟩
      go_wp2
      refine relEnd_ow rfl rfl ?_ hb7 ⟨a7, d7, rfl, Q7.weak (by rw [ov_size]; omega)⟩
      (simp only [Act.put, List.setIfInBounds_toArray, List.set_cons_succ, List.set_cons_zero] <;> rfl)
    simp only [Act.put, List.setIfInBounds_toArray, List.set_cons_succ, List.set_cons_zero]
    (refine wpRel_pur rfl rfl (fun x => by ((go_wp2); refine relEnd_pur rfl ?_ (by repeat (first | exact Below.refl _ _ | refine below_ov _ _ ?_ (by first | omega | (simp [ov_size] <;> omega)) | refine Below.alloc ?_ (by first | omega | (simp [ov_size] <;> omega)) _ | refine Below.setCell ?_ (by first | omega | (simp [ov_size] <;> omega)) _ | refine Below.drew ?_ | refine below_drewN ?_ _)); simp only [Act.put, List.setIfInBounds_toArray, List.set_cons_succ, List.set_cons_zero]; rfl)) ?_; simp only [Act.put, List.setIfInBounds_toArray, List.set_cons_succ, List.set_cons_zero])
    refine wpRel_own rfl rfl rfl (fun x hh => ?_) ?_
    · go_wp2_with fail
      refine (toRegion_any (Sq.below (by repeat (first | exact Below.refl _ _ | refine below_ov _ _ ?_ (by first | omega | (simp [ov_size] <;> omega)) | refine Below.alloc ?_ (by first | omega | (simp [ov_size] <;> omega)) _ | refine Below.setCell ?_ (by first | omega | (simp [ov_size] <;> omega)) _ | refine Below.drew ?_ | refine below_drewN ?_ _))) (by omega)).mono ?_
      rintro e w7 ⟨a7, d7, rfl, Q7, hb7⟩
      go_wp2
      refine relEnd_ow rfl rfl ?_ hb7 ⟨a7, d7, rfl, Q7.weak (by rw [ov_size]; omega)⟩
      (simp only [Act.put, List.setIfInBounds_toArray, List.set_cons_succ, List.set_cons_zero] <;> rfl)
    simp only [Act.put, List.setIfInBounds_toArray, List.set_cons_succ, List.set_cons_zero]
    refine wpRel_own rfl rfl rfl (fun x hh => ?_) ?_
    · obtain ⟨ao1, do1, f1, Qo1⟩ := isOw_at (hh 1 (by simp)) rfl
      simp only [f1]
      obtain ⟨ao3, do3, f3, Qo3⟩ := isOw_at (hh 3 (by simp)) rfl
      simp only [f3]
      go_wp2_with fail
      refine (spec_ErodeRegion_eq Qo1.r3 (by omega) Qo3.r3 (by omega) HR).mono ?_
      rintro e w7 ⟨a7, d7, rfl, Q7, hb7⟩
      go_wp2
      refine relEnd_ow rfl rfl ?_ hb7 ⟨a7, d7, rfl, Q7.weak (by rw [ov_size]; omega)⟩
      (simp only [Act.put, List.setIfInBounds_toArray, List.set_cons_succ, List.set_cons_zero] <;> rfl)
    simp only [Act.put, List.setIfInBounds_toArray, List.set_cons_succ, List.set_cons_zero]
    refine wpRel_own rfl rfl rfl (fun x hh => ?_) ?_
    · obtain ⟨aoo, doo, fo, Qoo⟩ := isOw_at (hh 4 (by simp)) rfl
      simp only [fo]
      go_wp2
      refine relEnd_ow rfl rfl ?_ (Below.refl _ _) ⟨aoo, doo, rfl, Qoo⟩
      (simp only [Act.put, List.setIfInBounds_toArray, List.set_cons_succ, List.set_cons_zero] <;> rfl)
    simp only [Act.put, List.setIfInBounds_toArray, List.set_cons_succ, List.set_cons_zero]
    refine wpRel_own rfl rfl rfl (fun x hh => ?_) ?_
    · obtain ⟨aoo, doo, fo, Qoo⟩ := isOw_at (hh 5 (by simp)) rfl
      simp only [fo]
      go_wp2
      refine relEnd_ow rfl rfl ?_ (Below.refl _ _) ⟨aoo, doo, rfl, Qoo⟩
      (simp only [Act.put, List.setIfInBounds_toArray, List.set_cons_succ, List.set_cons_zero] <;> rfl)
    simp only [Act.put, List.setIfInBounds_toArray, List.set_cons_succ, List.set_cons_zero]
    (refine wpRel_purn rfl rfl (fun x hh => by ((obtain ⟨aoo, doo, fo, Qoo⟩ := isOw_at (hh 5 (by simp)) rfl; simp only [fo]); (go_wp2); refine relEnd_pur rfl ?_ (by repeat (first | exact Below.refl _ _ | refine below_ov _ _ ?_ (by first | omega | (simp [ov_size] <;> omega)) | refine Below.alloc ?_ (by first | omega | (simp [ov_size] <;> omega)) _ | refine Below.setCell ?_ (by first | omega | (simp [ov_size] <;> omega)) _ | refine Below.drew ?_ | refine below_drewN ?_ _)); simp only [Act.put, List.setIfInBounds_toArray, List.set_cons_succ, List.set_cons_zero]; rfl)) ?_; simp only [Act.put, List.setIfInBounds_toArray, List.set_cons_succ, List.set_cons_zero])
    refine wpRel_al #[.slice none 0 0] rfl rfl rfl rfl rfl rfl (fun w => by simp [go_sem]) ?_
    simp only [Act.put, List.setIfInBounds_toArray, List.set_cons_succ, List.set_cons_zero]
    refine wpRel_so rfl rfl rfl rfl rfl rfl (by decide) (by decide) rfl rfl (by kernel_rfl) (fun w hw => by obtain ⟨aoo, doo, fo, Qoo⟩ := hw; rw [fo]; exact reg_cells _ _ _) (by repeat (first | exact all_nil | refine all_cons trivial ?_ | refine all_cons isAl_steady ?_ | refine all_cons (isOw_steady (by assumption)) ?_)) ?_
    (refine wpRel_pur rfl rfl (fun x => by ((go_wp2); refine relEnd_pur rfl ?_ (by repeat (first | exact Below.refl _ _ | refine below_ov _ _ ?_ (by first | omega | (simp [ov_size] <;> omega)) | refine Below.alloc ?_ (by first | omega | (simp [ov_size] <;> omega)) _ | refine Below.setCell ?_ (by first | omega | (simp [ov_size] <;> omega)) _ | refine Below.drew ?_ | refine below_drewN ?_ _)); simp only [Act.put, List.setIfInBounds_toArray, List.set_cons_succ, List.set_cons_zero]; rfl)) ?_; simp only [Act.put, List.setIfInBounds_toArray, List.set_cons_succ, List.set_cons_zero])
    refine wpRelE_nilB0 (fun W1 K hh => ?_)
    obtain ⟨bw, hen, hnb, hx⟩ := isSt_own (hh 9) rfl rfl rfl
    obtain ⟨aw, dw, fo, Xw⟩ := isOw_at (hh 6) rfl
    rw [fo] at hx
    simp only [hen]
    have Bw := Lib.hid hx
    clear hx hnb hen fo
    clear hh
    clear Bpc0 Bqc0 Bpl Bql
    replace Xw := Xw.weak (B' := V.heap.size) (by have := T.size; (try simp [ov_size]); omega)
    replace T := T.trans (K.mono T.size)
    replace Bp := box_below Bp K
    replace Bq := box_below Bq K
    clear K Sp Sq
    have Sp := Rp.below (TV.trans (T.mono s0))
    have Sq := Rq.below (TV.trans (T.mono s0))
    have Bpc0 := cell_blk (j := 0) (v := .slice Ap p.length cp) Bp.out rfl
    have Bpl := (Array.getElem?_eq_some_iff.1 Bp.out).1
    have Bqc0 := cell_blk (j := 0) (v := .slice Aq q.length cq) Bq.out rfl
    have Bql := (Array.getElem?_eq_some_iff.1 Bq.out).1
    have Bwc0 := cell_blk (j := 0) (v := .slice aw out.length dw) Bw.out rfl
    have Bwl := (Array.getElem?_eq_some_iff.1 Bw.out).1
    go_wp2_with fail
    clear Bpc0 Bqc0 Bwc0 Bpl Bql Bwl
    refine (toRegion_any (Sp.below (by repeat (first | exact Below.refl _ _ | refine below_ov _ _ ?_ (by first | omega | (simp [ov_size] <;> omega)) | refine Below.alloc ?_ (by first | omega | (simp [ov_size] <;> omega)) _ | refine Below.setCell ?_ (by first | omega | (simp [ov_size] <;> omega)) _ | refine Below.drew ?_ | refine below_drewN ?_ _))) (by omega)).mono ?_
    rintro e W2 ⟨axp, dxp, rfl, Xxp, hb⟩
    have apXwXxp := apart_new Xw Xxp (by first | exact Nat.le_refl _ | (simp [ov_size]) | (simp [ov_size]; omega))
    replace Xxp := Xxp.weak (B' := V.heap.size) (by have := T.size; (try simp [ov_size]); omega)
    have K : Below W1.heap.size W1 W2 := Below.trans (by repeat (first | exact Below.refl _ _ | refine below_ov _ _ ?_ (by first | omega | (simp [ov_size] <;> omega)) | refine Below.alloc ?_ (by first | omega | (simp [ov_size] <;> omega)) _ | refine Below.setCell ?_ (by first | omega | (simp [ov_size] <;> omega)) _ | refine Below.drew ?_ | refine below_drewN ?_ _)) (hb.mono (by first | exact Nat.le_refl _ | simp [ov_size]))
    clear hb
    replace T := T.trans (K.mono T.size)
    replace Bp := box_below Bp K
    replace Bq := box_below Bq K
    replace Bw := box_below Bw K
    replace Xw := Xw.below K
    clear K Sp Sq
    have Sp := Rp.below (TV.trans (T.mono s0))
    have Sq := Rq.below (TV.trans (T.mono s0))
    have Bpc0 := cell_blk (j := 0) (v := .slice Ap p.length cp) Bp.out rfl
    have Bpl := (Array.getElem?_eq_some_iff.1 Bp.out).1
    have Bqc0 := cell_blk (j := 0) (v := .slice Aq q.length cq) Bq.out rfl
    have Bql := (Array.getElem?_eq_some_iff.1 Bq.out).1
    have Bwc0 := cell_blk (j := 0) (v := .slice aw out.length dw) Bw.out rfl
    have Bwl := (Array.getElem?_eq_some_iff.1 Bw.out).1
    go_wp2_with fail
    clear Bpc0 Bqc0 Bwc0 Bpl Bql Bwl
    obtain ⟨bxp, hbx⟩ : ∃ b, b = W2.heap.size := ⟨_, rfl⟩
    rw [← hbx]
    obtain ⟨W3, hW⟩ : ∃ W, W = W2.alloc (.cells #[.slice axp p.length dxp] 34) := ⟨_, rfl⟩
    rw [← hW]
    have K : Below W2.heap.size W2 W3 := by rw [hW]; exact (by repeat (first | exact Below.refl _ _ | refine below_ov _ _ ?_ (by first | omega | (simp [ov_size] <;> omega)) | refine Below.alloc ?_ (by first | omega | (simp [ov_size] <;> omega)) _ | refine Below.setCell ?_ (by first | omega | (simp [ov_size] <;> omega)) _ | refine Below.drew ?_ | refine below_drewN ?_ _))
    have Bxp := Lib.hid (show W3.heap[bxp]? = some (.cells #[.slice axp p.length dxp] 34 (0, 0)) by rw [hW, hbx]; exact heap_alloc_new _ _)
    clear hW hbx
    replace T := T.trans (K.mono T.size)
    replace Bp := box_below Bp K
    replace Bq := box_below Bq K
    replace Bw := box_below Bw K
    replace Xw := Xw.below K
    replace Xxp := Xxp.below K
    clear K Sp Sq
    have Sp := Rp.below (TV.trans (T.mono s0))
    have Sq := Rq.below (TV.trans (T.mono s0))
    refine (toRegion_any (Sq.below (by repeat (first | exact Below.refl _ _ | refine below_ov _ _ ?_ (by first | omega | (simp [ov_size] <;> omega)) | refine Below.alloc ?_ (by first | omega | (simp [ov_size] <;> omega)) _ | refine Below.setCell ?_ (by first | omega | (simp [ov_size] <;> omega)) _ | refine Below.drew ?_ | refine below_drewN ?_ _))) (by omega)).mono ?_
    rintro e W4 ⟨axq, dxq, rfl, Xxq, hb⟩
    have apXwXxq := apart_new Xw Xxq (by first | exact Nat.le_refl _ | (simp [ov_size]) | (simp [ov_size]; omega))
    have apXxpXxq := apart_new Xxp Xxq (by first | exact Nat.le_refl _ | (simp [ov_size]) | (simp [ov_size]; omega))
    replace Xxq := Xxq.weak (B' := V.heap.size) (by have := T.size; (try simp [ov_size]); omega)
    have K : Below W3.heap.size W3 W4 := Below.trans (by repeat (first | exact Below.refl _ _ | refine below_ov _ _ ?_ (by first | omega | (simp [ov_size] <;> omega)) | refine Below.alloc ?_ (by first | omega | (simp [ov_size] <;> omega)) _ | refine Below.setCell ?_ (by first | omega | (simp [ov_size] <;> omega)) _ | refine Below.drew ?_ | refine below_drewN ?_ _)) (hb.mono (by first | exact Nat.le_refl _ | simp [ov_size]))
    clear hb
    replace T := T.trans (K.mono T.size)
    replace Bp := box_below Bp K
    replace Bq := box_below Bq K
    replace Bw := box_below Bw K
    replace Bxp := box_below Bxp K
    replace Xw := Xw.below K
    replace Xxp := Xxp.below K
    clear K Sp Sq
    have Sp := Rp.below (TV.trans (T.mono s0))
    have Sq := Rq.below (TV.trans (T.mono s0))
    have Bpc0 := cell_blk (j := 0) (v := .slice Ap p.length cp) Bp.out rfl
    have Bpl := (Array.getElem?_eq_some_iff.1 Bp.out).1
    have Bqc0 := cell_blk (j := 0) (v := .slice Aq q.length cq) Bq.out rfl
    have Bql := (Array.getElem?_eq_some_iff.1 Bq.out).1
    have Bwc0 := cell_blk (j := 0) (v := .slice aw out.length dw) Bw.out rfl
    have Bwl := (Array.getElem?_eq_some_iff.1 Bw.out).1
    have Bxpc0 := cell_blk (j := 0) (v := .slice axp p.length dxp) Bxp.out rfl
    have Bxpl := (Array.getElem?_eq_some_iff.1 Bxp.out).1
    go_wp2_with fail
    clear Bpc0 Bqc0 Bwc0 Bxpc0 Bpl Bql Bwl Bxpl
    obtain ⟨bxq, hbx⟩ : ∃ b, b = W4.heap.size := ⟨_, rfl⟩
    rw [← hbx]
    obtain ⟨W5, hW⟩ : ∃ W, W = W4.alloc (.cells #[.slice axq q.length dxq] 34) := ⟨_, rfl⟩
    rw [← hW]
    have K : Below W4.heap.size W4 W5 := by rw [hW]; exact (by repeat (first | exact Below.refl _ _ | refine below_ov _ _ ?_ (by first | omega | (simp [ov_size] <;> omega)) | refine Below.alloc ?_ (by first | omega | (simp [ov_size] <;> omega)) _ | refine Below.setCell ?_ (by first | omega | (simp [ov_size] <;> omega)) _ | refine Below.drew ?_ | refine below_drewN ?_ _))
    have Bxq := Lib.hid (show W5.heap[bxq]? = some (.cells #[.slice axq q.length dxq] 34 (0, 0)) by rw [hW, hbx]; exact heap_alloc_new _ _)
    clear hW hbx
    replace T := T.trans (K.mono T.size)
    replace Bp := box_below Bp K
    replace Bq := box_below Bq K
    replace Bw := box_below Bw K
    replace Bxp := box_below Bxp K
    replace Xw := Xw.below K
    replace Xxp := Xxp.below K
    replace Xxq := Xxq.below K
    clear K Sp Sq
    have Sp := Rp.below (TV.trans (T.mono s0))
    have Sq := Rq.below (TV.trans (T.mono s0))
    refine (impl_ErodeRegion_eq ((Xxp.below (by repeat (first | exact Below.refl _ _ | refine below_ov _ _ ?_ (by first | omega | (simp [ov_size] <;> omega)) | refine Below.alloc ?_ (by first | omega | (simp [ov_size] <;> omega)) _ | refine Below.setCell ?_ (by first | omega | (simp [ov_size] <;> omega)) _ | refine Below.drew ?_ | refine below_drewN ?_ _))).r3) (by omega) ((Xxq.below (by repeat (first | exact Below.refl _ _ | refine below_ov _ _ ?_ (by first | omega | (simp [ov_size] <;> omega)) | refine Below.alloc ?_ (by first | omega | (simp [ov_size] <;> omega)) _ | refine Below.setCell ?_ (by first | omega | (simp [ov_size] <;> omega)) _ | refine Below.drew ?_ | refine below_drewN ?_ _))).r3) (by omega) HR).mono ?_
    rintro e W6 ⟨ag, dg, rfl, Xg, hb⟩
    have apXwXg := apart_new Xw Xg (by first | exact Nat.le_refl _ | (simp [ov_size]) | (simp [ov_size]; omega))
    have apXxpXg := apart_new Xxp Xg (by first | exact Nat.le_refl _ | (simp [ov_size]) | (simp [ov_size]; omega))
    have apXxqXg := apart_new Xxq Xg (by first | exact Nat.le_refl _ | (simp [ov_size]) | (simp [ov_size]; omega))
    replace Xg := Xg.weak (B' := V.heap.size) (by have := T.size; (try simp [ov_size]); omega)
    have K : Below W5.heap.size W5 W6 := Below.trans (by repeat (first | exact Below.refl _ _ | refine below_ov _ _ ?_ (by first | omega | (simp [ov_size] <;> omega)) | refine Below.alloc ?_ (by first | omega | (simp [ov_size] <;> omega)) _ | refine Below.setCell ?_ (by first | omega | (simp [ov_size] <;> omega)) _ | refine Below.drew ?_ | refine below_drewN ?_ _)) (hb.mono (by first | exact Nat.le_refl _ | simp [ov_size]))
    clear hb
    replace T := T.trans (K.mono T.size)
    replace Bp := box_below Bp K
    replace Bq := box_below Bq K
    replace Bw := box_below Bw K
    replace Bxp := box_below Bxp K
    replace Bxq := box_below Bxq K
    replace Xw := Xw.below K
    replace Xxp := Xxp.below K
    replace Xxq := Xxq.below K
    clear K Sp Sq
    have Sp := Rp.below (TV.trans (T.mono s0))
    have Sq := Rq.below (TV.trans (T.mono s0))
    have Bpc0 := cell_blk (j := 0) (v := .slice Ap p.length cp) Bp.out rfl
    have Bpl := (Array.getElem?_eq_some_iff.1 Bp.out).1
    have Bqc0 := cell_blk (j := 0) (v := .slice Aq q.length cq) Bq.out rfl
    have Bql := (Array.getElem?_eq_some_iff.1 Bq.out).1
    have Bwc0 := cell_blk (j := 0) (v := .slice aw out.length dw) Bw.out rfl
    have Bwl := (Array.getElem?_eq_some_iff.1 Bw.out).1
    have Bxpc0 := cell_blk (j := 0) (v := .slice axp p.length dxp) Bxp.out rfl
    have Bxpl := (Array.getElem?_eq_some_iff.1 Bxp.out).1
    have Bxqc0 := cell_blk (j := 0) (v := .slice axq q.length dxq) Bxq.out rfl
    have Bxql := (Array.getElem?_eq_some_iff.1 Bxq.out).1
    go_wp2_with fail
    clear Bpc0 Bqc0 Bwc0 Bxpc0 Bxqc0 Bpl Bql Bwl Bxpl Bxql
    obtain ⟨bg, hbx⟩ : ∃ b, b = W6.heap.size := ⟨_, rfl⟩
    rw [← hbx]
    obtain ⟨W7, hW⟩ : ∃ W, W = W6.alloc (.cells #[.slice ag out.length dg] 34) := ⟨_, rfl⟩
    rw [← hW]
    have K : Below W6.heap.size W6 W7 := by rw [hW]; exact (by repeat (first | exact Below.refl _ _ | refine below_ov _ _ ?_ (by first | omega | (simp [ov_size] <;> omega)) | refine Below.alloc ?_ (by first | omega | (simp [ov_size] <;> omega)) _ | refine Below.setCell ?_ (by first | omega | (simp [ov_size] <;> omega)) _ | refine Below.drew ?_ | refine below_drewN ?_ _))
    have Bg := Lib.hid (show W7.heap[bg]? = some (.cells #[.slice ag out.length dg] 34 (0, 0)) by rw [hW, hbx]; exact heap_alloc_new _ _)
    clear hW hbx
    replace T := T.trans (K.mono T.size)
    replace Bp := box_below Bp K
    replace Bq := box_below Bq K
    replace Bw := box_below Bw K
    replace Bxp := box_below Bxp K
    replace Bxq := box_below Bxq K
    replace Xw := Xw.below K
    replace Xxp := Xxp.below K
    replace Xxq := Xxq.below K
    replace Xg := Xg.below K
    clear K Sp Sq
    have Sp := Rp.below (TV.trans (T.mono s0))
    have Sq := Rq.below (TV.trans (T.mono s0))
    refine (calls_ov (eqRegion_same (by exact (Xg.below (by repeat (first | exact Below.refl _ _ | refine below_ov _ _ ?_ (by first | omega | (simp [ov_size] <;> omega)) | refine Below.alloc ?_ (by first | omega | (simp [ov_size] <;> omega)) _ | refine Below.setCell ?_ (by first | omega | (simp [ov_size] <;> omega)) _ | refine Below.drew ?_ | refine below_drewN ?_ _))).r3) (by exact (Xw.below (by repeat (first | exact Below.refl _ _ | refine below_ov _ _ ?_ (by first | omega | (simp [ov_size] <;> omega)) | refine Below.alloc ?_ (by first | omega | (simp [ov_size] <;> omega)) _ | refine Below.setCell ?_ (by first | omega | (simp [ov_size] <;> omega)) _ | refine Below.drew ?_ | refine below_drewN ?_ _))).r3) (by omega))).mono ?_
    rintro e w' ⟨rfl, x, rfl⟩
    obtain ⟨W8, hW⟩ : ∃ W8, W8 = ov W7 x := ⟨_, rfl⟩
    rw [← hW]
    have K : Below W7.heap.size W7 W8 := by rw [hW]; exact (by repeat (first | exact Below.refl _ _ | refine below_ov _ _ ?_ (by first | omega | (simp [ov_size] <;> omega)) | refine Below.alloc ?_ (by first | omega | (simp [ov_size] <;> omega)) _ | refine Below.setCell ?_ (by first | omega | (simp [ov_size] <;> omega)) _ | refine Below.drew ?_ | refine below_drewN ?_ _))
    clear hW
    replace T := T.trans (K.mono T.size)
    replace Bp := box_below Bp K
    replace Bq := box_below Bq K
    replace Bw := box_below Bw K
    replace Bxp := box_below Bxp K
    replace Bxq := box_below Bxq K
    replace Bg := box_below Bg K
    replace Xw := Xw.below K
    replace Xxp := Xxp.below K
    replace Xxq := Xxq.below K
    replace Xg := Xg.below K
    clear K Sp Sq
    have Sp := Rp.below (TV.trans (T.mono s0))
    have Sq := Rq.below (TV.trans (T.mono s0))
    have Bpc0 := cell_blk (j := 0) (v := .slice Ap p.length cp) Bp.out rfl
    have Bpl := (Array.getElem?_eq_some_iff.1 Bp.out).1
    have Bqc0 := cell_blk (j := 0) (v := .slice Aq q.length cq) Bq.out rfl
    have Bql := (Array.getElem?_eq_some_iff.1 Bq.out).1
    have Bwc0 := cell_blk (j := 0) (v := .slice aw out.length dw) Bw.out rfl
    have Bwl := (Array.getElem?_eq_some_iff.1 Bw.out).1
    have Bxpc0 := cell_blk (j := 0) (v := .slice axp p.length dxp) Bxp.out rfl
    have Bxpl := (Array.getElem?_eq_some_iff.1 Bxp.out).1
    have Bxqc0 := cell_blk (j := 0) (v := .slice axq q.length dxq) Bxq.out rfl
    have Bxql := (Array.getElem?_eq_some_iff.1 Bxq.out).1
    have Bgc0 := cell_blk (j := 0) (v := .slice ag out.length dg) Bg.out rfl
    have Bgl := (Array.getElem?_eq_some_iff.1 Bg.out).1
    go_wp2_with fail
    clear Bpc0 Bqc0 Bwc0 Bxpc0 Bxqc0 Bgc0 Bpl Bql Bwl Bxpl Bxql Bgl
    have Bpc0 := cell_blk (j := 0) (v := .slice Ap p.length cp) Bp.out rfl
    have Bpl := (Array.getElem?_eq_some_iff.1 Bp.out).1
    have Bqc0 := cell_blk (j := 0) (v := .slice Aq q.length cq) Bq.out rfl
    have Bql := (Array.getElem?_eq_some_iff.1 Bq.out).1
    have Bwc0 := cell_blk (j := 0) (v := .slice aw out.length dw) Bw.out rfl
    have Bwl := (Array.getElem?_eq_some_iff.1 Bw.out).1
    have Bxpc0 := cell_blk (j := 0) (v := .slice axp p.length dxp) Bxp.out rfl
    have Bxpl := (Array.getElem?_eq_some_iff.1 Bxp.out).1
    have Bxqc0 := cell_blk (j := 0) (v := .slice axq q.length dxq) Bxq.out rfl
    have Bxql := (Array.getElem?_eq_some_iff.1 Bxq.out).1
    have Bgc0 := cell_blk (j := 0) (v := .slice ag out.length dg) Bg.out rfl
    have Bgl := (Array.getElem?_eq_some_iff.1 Bg.out).1
    refine wp_region_rel [.pur [] ?d2c0, .pur [] ?d2c1, .rel [] [2] false (IsOw (GReg p)), .pur [2] ?d2c3, .pur [] ?d2c4] _ rfl rfl (by kernel_rfl) (by kernel_rfl) ?hstd2 (fun vs => ?walkd2)
    case' walkd2 =>
      (refine wpRel_pur rfl rfl (fun x => by ((go_wp2); refine relEnd_pur rfl ?_ (by repeat (first | exact Below.refl _ _ | refine below_ov _ _ ?_ (by first | omega | (simp [ov_size] <;> omega)) | refine Below.alloc ?_ (by first | omega | (simp [ov_size] <;> omega)) _ | refine Below.setCell ?_ (by first | omega | (simp [ov_size] <;> omega)) _ | refine Below.drew ?_ | refine below_drewN ?_ _)); simp only [Act.put, List.setIfInBounds_toArray, List.set_cons_succ, List.set_cons_zero]; rfl)) ?_; simp only [Act.put, List.setIfInBounds_toArray, List.set_cons_succ, List.set_cons_zero])
      (refine wpRel_pur rfl rfl (fun x => by ((go_wp2); refine relEnd_pur rfl ?_ (by repeat (first | exact Below.refl _ _ | refine below_ov _ _ ?_ (by first | omega | (simp [ov_size] <;> omega)) | refine Below.alloc ?_ (by first | omega | (simp [ov_size] <;> omega)) _ | refine Below.setCell ?_ (by first | omega | (simp [ov_size] <;> omega)) _ | refine Below.drew ?_ | refine below_drewN ?_ _)); simp only [Act.put, List.setIfInBounds_toArray, List.set_cons_succ, List.set_cons_zero]; rfl)) ?_; simp only [Act.put, List.setIfInBounds_toArray, List.set_cons_succ, List.set_cons_zero])
      refine wpRel_own rfl rfl rfl (fun x hh => ?_) ?_
      · go_wp2_with fail
        refine (toRegion_any (Sp.below (by repeat (first | exact Below.refl _ _ | refine below_ov _ _ ?_ (by first | omega | (simp [ov_size] <;> omega)) | refine Below.alloc ?_ (by first | omega | (simp [ov_size] <;> omega)) _ | refine Below.setCell ?_ (by first | omega | (simp [ov_size] <;> omega)) _ | refine Below.drew ?_ | refine below_drewN ?_ _))) (by omega)).mono ?_
        rintro e w7 ⟨a7, d7, rfl, Q7, hb7⟩
        go_wp2
        refine relEnd_ow rfl rfl ?_ hb7 ⟨a7, d7, rfl, Q7.weak (by rw [ov_size]; omega)⟩
        (simp only [Act.put, List.setIfInBounds_toArray, List.set_cons_succ, List.set_cons_zero] <;> rfl)
      simp only [Act.put, List.setIfInBounds_toArray, List.set_cons_succ, List.set_cons_zero]
      (refine wpRel_purn rfl rfl (fun x hh => by ((obtain ⟨ao2, do2, f2, Qo2⟩ := isOw_at (hh 2 (by simp)) rfl; simp only [f2]); (go_wp2_with (first | (go_at_call 33; refine (calls_ov (eqRegion_same (by exact (Xxp.below (by repeat (first | exact Below.refl _ _ | refine below_ov _ _ ?_ (by first | omega | (simp [ov_size] <;> omega)) | refine Below.alloc ?_ (by first | omega | (simp [ov_size] <;> omega)) _ | refine Below.setCell ?_ (by first | omega | (simp [ov_size] <;> omega)) _ | refine Below.drew ?_ | refine below_drewN ?_ _))).r3) (by first | exact ((Qo2.below (by repeat (first | exact Below.refl _ _ | refine below_ov _ _ ?_ (by first | omega | (simp [ov_size] <;> omega)) | refine Below.alloc ?_ (by first | omega | (simp [ov_size] <;> omega)) _ | refine Below.setCell ?_ (by first | omega | (simp [ov_size] <;> omega)) _ | refine Below.drew ?_ | refine below_drewN ?_ _))).r3) | exact Qo2.r3) (by omega))).mono ?_; rintro e w' ⟨rfl, x, rfl⟩))); refine relEnd_pur rfl ?_ (by repeat (first | exact Below.refl _ _ | refine below_ov _ _ ?_ (by first | omega | (simp [ov_size] <;> omega)) | refine Below.alloc ?_ (by first | omega | (simp [ov_size] <;> omega)) _ | refine Below.setCell ?_ (by first | omega | (simp [ov_size] <;> omega)) _ | refine Below.drew ?_ | refine below_drewN ?_ _)); simp only [Act.put, List.setIfInBounds_toArray, List.set_cons_succ, List.set_cons_zero]; rfl)) ?_; simp only [Act.put, List.setIfInBounds_toArray, List.set_cons_succ, List.set_cons_zero])
      (refine wpRel_pur rfl rfl (fun x => by ((go_wp2); refine relEnd_pur rfl ?_ (by repeat (first | exact Below.refl _ _ | refine below_ov _ _ ?_ (by first | omega | (simp [ov_size] <;> omega)) | refine Below.alloc ?_ (by first | omega | (simp [ov_size] <;> omega)) _ | refine Below.setCell ?_ (by first | omega | (simp [ov_size] <;> omega)) _ | refine Below.drew ?_ | refine below_drewN ?_ _)); simp only [Act.put, List.setIfInBounds_toArray, List.set_cons_succ, List.set_cons_zero]; rfl)) ?_; simp only [Act.put, List.setIfInBounds_toArray, List.set_cons_succ, List.set_cons_zero])
      refine wpRelE_nilB0 (fun W9 K hh => ?_)
      clear hh
      clear Bpc0 Bqc0 Bwc0 Bxpc0 Bxqc0 Bgc0 Bpl Bql Bwl Bxpl Bxql Bgl
      replace T := T.trans (K.mono T.size)
      replace Bp := box_below Bp K
      replace Bq := box_below Bq K
      replace Bw := box_below Bw K
      replace Bxp := box_below Bxp K
      replace Bxq := box_below Bxq K
      replace Bg := box_below Bg K
      replace Xw := Xw.below K
      replace Xxp := Xxp.below K
      replace Xxq := Xxq.below K
      replace Xg := Xg.below K
      clear K Sp Sq
      have Sp := Rp.below (TV.trans (T.mono s0))
      have Sq := Rq.below (TV.trans (T.mono s0))
      have Bpc0 := cell_blk (j := 0) (v := .slice Ap p.length cp) Bp.out rfl
      have Bpl := (Array.getElem?_eq_some_iff.1 Bp.out).1
      have Bqc0 := cell_blk (j := 0) (v := .slice Aq q.length cq) Bq.out rfl
      have Bql := (Array.getElem?_eq_some_iff.1 Bq.out).1
      have Bwc0 := cell_blk (j := 0) (v := .slice aw out.length dw) Bw.out rfl
      have Bwl := (Array.getElem?_eq_some_iff.1 Bw.out).1
      have Bxpc0 := cell_blk (j := 0) (v := .slice axp p.length dxp) Bxp.out rfl
      have Bxpl := (Array.getElem?_eq_some_iff.1 Bxp.out).1
      have Bxqc0 := cell_blk (j := 0) (v := .slice axq q.length dxq) Bxq.out rfl
      have Bxql := (Array.getElem?_eq_some_iff.1 Bxq.out).1
      have Bgc0 := cell_blk (j := 0) (v := .slice ag out.length dg) Bg.out rfl
      have Bgl := (Array.getElem?_eq_some_iff.1 Bg.out).1
      go_wp2_with fail
      clear Bpc0 Bqc0 Bwc0 Bxpc0 Bxqc0 Bgc0 Bpl Bql Bwl Bxpl Bxql Bgl
      have Bpc0 := cell_blk (j := 0) (v := .slice Ap p.length cp) Bp.out rfl
      have Bpl := (Array.getElem?_eq_some_iff.1 Bp.out).1
      have Bqc0 := cell_blk (j := 0) (v := .slice Aq q.length cq) Bq.out rfl
      have Bql := (Array.getElem?_eq_some_iff.1 Bq.out).1
      have Bwc0 := cell_blk (j := 0) (v := .slice aw out.length dw) Bw.out rfl
      have Bwl := (Array.getElem?_eq_some_iff.1 Bw.out).1
      have Bxpc0 := cell_blk (j := 0) (v := .slice axp p.length dxp) Bxp.out rfl
      have Bxpl := (Array.getElem?_eq_some_iff.1 Bxp.out).1
      have Bxqc0 := cell_blk (j := 0) (v := .slice axq q.length dxq) Bxq.out rfl
      have Bxql := (Array.getElem?_eq_some_iff.1 Bxq.out).1
      have Bgc0 := cell_blk (j := 0) (v := .slice ag out.length dg) Bg.out rfl
      have Bgl := (Array.getElem?_eq_some_iff.1 Bg.out).1
      refine wp_region_rel [.pur [] ?d3c0, .pur [] ?d3c1, .rel [] [2] false (IsOw (GReg q)), .pur [2] ?d3c3, .pur [] ?d3c4] _ rfl rfl (by kernel_rfl) (by kernel_rfl) ?hstd3 (fun vs => ?walkd3)
      case' walkd3 =>
        (refine wpRel_pur rfl rfl (fun x => by ((go_wp2); refine relEnd_pur rfl ?_ (by repeat (first | exact Below.refl _ _ | refine below_ov _ _ ?_ (by first | omega | (simp [ov_size] <;> omega)) | refine Below.alloc ?_ (by first | omega | (simp [ov_size] <;> omega)) _ | refine Below.setCell ?_ (by first | omega | (simp [ov_size] <;> omega)) _ | refine Below.drew ?_ | refine below_drewN ?_ _)); simp only [Act.put, List.setIfInBounds_toArray, List.set_cons_succ, List.set_cons_zero]; rfl)) ?_; simp only [Act.put, List.setIfInBounds_toArray, List.set_cons_succ, List.set_cons_zero])
        (refine wpRel_pur rfl rfl (fun x => by ((go_wp2); refine relEnd_pur rfl ?_ (by repeat (first | exact Below.refl _ _ | refine below_ov _ _ ?_ (by first | omega | (simp [ov_size] <;> omega)) | refine Below.alloc ?_ (by first | omega | (simp [ov_size] <;> omega)) _ | refine Below.setCell ?_ (by first | omega | (simp [ov_size] <;> omega)) _ | refine Below.drew ?_ | refine below_drewN ?_ _)); simp only [Act.put, List.setIfInBounds_toArray, List.set_cons_succ, List.set_cons_zero]; rfl)) ?_; simp only [Act.put, List.setIfInBounds_toArray, List.set_cons_succ, List.set_cons_zero])
        refine wpRel_own rfl rfl rfl (fun x hh => ?_) ?_
        · go_wp2_with fail
          refine (toRegion_any (Sq.below (by repeat (first | exact Below.refl _ _ | refine below_ov _ _ ?_ (by first | omega | (simp [ov_size] <;> omega)) | refine Below.alloc ?_ (by first | omega | (simp [ov_size] <;> omega)) _ | refine Below.setCell ?_ (by first | omega | (simp [ov_size] <;> omega)) _ | refine Below.drew ?_ | refine below_drewN ?_ _))) (by omega)).mono ?_
          rintro e w7 ⟨a7, d7, rfl, Q7, hb7⟩
          go_wp2
          refine relEnd_ow rfl rfl ?_ hb7 ⟨a7, d7, rfl, Q7.weak (by rw [ov_size]; omega)⟩
          (simp only [Act.put, List.setIfInBounds_toArray, List.set_cons_succ, List.set_cons_zero] <;> rfl)
        simp only [Act.put, List.setIfInBounds_toArray, List.set_cons_succ, List.set_cons_zero]
        (refine wpRel_purn rfl rfl (fun x hh => by ((obtain ⟨ao2, do2, f2, Qo2⟩ := isOw_at (hh 2 (by simp)) rfl; simp only [f2]); (go_wp2_with (first | (go_at_call 33; refine (calls_ov (eqRegion_same (by exact (Xxq.below (by repeat (first | exact Below.refl _ _ | refine below_ov _ _ ?_ (by first | omega | (simp [ov_size] <;> omega)) | refine Below.alloc ?_ (by first | omega | (simp [ov_size] <;> omega)) _ | refine Below.setCell ?_ (by first | omega | (simp [ov_size] <;> omega)) _ | refine Below.drew ?_ | refine below_drewN ?_ _))).r3) (by first | exact ((Qo2.below (by repeat (first | exact Below.refl _ _ | refine below_ov _ _ ?_ (by first | omega | (simp [ov_size] <;> omega)) | refine Below.alloc ?_ (by first | omega | (simp [ov_size] <;> omega)) _ | refine Below.setCell ?_ (by first | omega | (simp [ov_size] <;> omega)) _ | refine Below.drew ?_ | refine below_drewN ?_ _))).r3) | exact Qo2.r3) (by omega))).mono ?_; rintro e w' ⟨rfl, x, rfl⟩))); refine relEnd_pur rfl ?_ (by repeat (first | exact Below.refl _ _ | refine below_ov _ _ ?_ (by first | omega | (simp [ov_size] <;> omega)) | refine Below.alloc ?_ (by first | omega | (simp [ov_size] <;> omega)) _ | refine Below.setCell ?_ (by first | omega | (simp [ov_size] <;> omega)) _ | refine Below.drew ?_ | refine below_drewN ?_ _)); simp only [Act.put, List.setIfInBounds_toArray, List.set_cons_succ, List.set_cons_zero]; rfl)) ?_; simp only [Act.put, List.setIfInBounds_toArray, List.set_cons_succ, List.set_cons_zero])
        (refine wpRel_pur rfl rfl (fun x => by ((go_wp2); refine relEnd_pur rfl ?_ (by repeat (first | exact Below.refl _ _ | refine below_ov _ _ ?_ (by first | omega | (simp [ov_size] <;> omega)) | refine Below.alloc ?_ (by first | omega | (simp [ov_size] <;> omega)) _ | refine Below.setCell ?_ (by first | omega | (simp [ov_size] <;> omega)) _ | refine Below.drew ?_ | refine below_drewN ?_ _)); simp only [Act.put, List.setIfInBounds_toArray, List.set_cons_succ, List.set_cons_zero]; rfl)) ?_; simp only [Act.put, List.setIfInBounds_toArray, List.set_cons_succ, List.set_cons_zero])
        refine wpRelE_nilB0 (fun W10 K hh => ?_)
        clear hh
        clear Bpc0 Bqc0 Bwc0 Bxpc0 Bxqc0 Bgc0 Bpl Bql Bwl Bxpl Bxql Bgl
        replace T := T.trans (K.mono T.size)
        replace Bp := box_below Bp K
        replace Bq := box_below Bq K
        replace Bw := box_below Bw K
        replace Bxp := box_below Bxp K
        replace Bxq := box_below Bxq K
        replace Bg := box_below Bg K
        replace Xw := Xw.below K
        replace Xxp := Xxp.below K
        replace Xxq := Xxq.below K
        replace Xg := Xg.below K
        clear K Sp Sq
        have Sp := Rp.below (TV.trans (T.mono s0))
        have Sq := Rq.below (TV.trans (T.mono s0))
        have Bpc0 := cell_blk (j := 0) (v := .slice Ap p.length cp) Bp.out rfl
        have Bpl := (Array.getElem?_eq_some_iff.1 Bp.out).1
        have Bqc0 := cell_blk (j := 0) (v := .slice Aq q.length cq) Bq.out rfl
        have Bql := (Array.getElem?_eq_some_iff.1 Bq.out).1
        have Bwc0 := cell_blk (j := 0) (v := .slice aw out.length dw) Bw.out rfl
        have Bwl := (Array.getElem?_eq_some_iff.1 Bw.out).1
        have Bxpc0 := cell_blk (j := 0) (v := .slice axp p.length dxp) Bxp.out rfl
        have Bxpl := (Array.getElem?_eq_some_iff.1 Bxp.out).1
        have Bxqc0 := cell_blk (j := 0) (v := .slice axq q.length dxq) Bxq.out rfl
        have Bxql := (Array.getElem?_eq_some_iff.1 Bxq.out).1
        have Bgc0 := cell_blk (j := 0) (v := .slice ag out.length dg) Bg.out rfl
        have Bgl := (Array.getElem?_eq_some_iff.1 Bg.out).1
        go_wp2_with fail
        clear Bpc0 Bqc0 Bwc0 Bxpc0 Bxqc0 Bgc0 Bpl Bql Bwl Bxpl Bxql Bgl
        refine (markRegion_any (Xxp.below (by repeat (first | exact Below.refl _ _ | refine below_ov _ _ ?_ (by first | omega | (simp [ov_size] <;> omega)) | refine Below.alloc ?_ (by first | omega | (simp [ov_size] <;> omega)) _ | refine Below.setCell ?_ (by first | omega | (simp [ov_size] <;> omega)) _ | refine Below.drew ?_ | refine below_drewN ?_ _))) (by omega) ⟨by omega, by omega⟩).mono ?_
        rintro e W11 ⟨rfl, Yxp, hg⟩
        have K : W10.grownBy W11 _ := grown_pre (by exact (by repeat (first | exact Below.refl _ _ | refine below_ov _ _ ?_ (by first | omega | (simp [ov_size] <;> omega)) | refine Below.alloc ?_ (by first | omega | (simp [ov_size] <;> omega)) _ | refine Below.setCell ?_ (by first | omega | (simp [ov_size] <;> omega)) _ | refine Below.drew ?_ | refine below_drewN ?_ _))) hg
        clear hg
        replace T := grown_below T K (fun k hk => (Xxp.lt k hk).1) (Nat.le_refl _)
        replace Bp := box_grown Bp K (Xxp.ne_box Bp.out (by decide))
        replace Bq := box_grown Bq K (Xxp.ne_box Bq.out (by decide))
        replace Bw := box_grown Bw K (Xxp.ne_box Bw.out (by decide))
        replace Bxp := box_grown Bxp K (Xxp.ne_box Bxp.out (by decide))
        replace Bxq := box_grown Bxq K (Xxp.ne_box Bxq.out (by decide))
        replace Bg := box_grown Bg K (Xxp.ne_box Bg.out (by decide))
        replace Xw := Xw.grown Xxp K apXwXxp.symm
        replace Xxq := Xxq.grown Xxp K apXxpXxq
        replace Xg := Xg.grown Xxp K apXxpXg
        clear K Sp Sq Xxp Yxp
        have Sp := Rp.below (TV.trans (T.mono s0))
        have Sq := Rq.below (TV.trans (T.mono s0))
        clear Bxp
        have Bpc0 := cell_blk (j := 0) (v := .slice Ap p.length cp) Bp.out rfl
        have Bpl := (Array.getElem?_eq_some_iff.1 Bp.out).1
        have Bqc0 := cell_blk (j := 0) (v := .slice Aq q.length cq) Bq.out rfl
        have Bql := (Array.getElem?_eq_some_iff.1 Bq.out).1
        have Bwc0 := cell_blk (j := 0) (v := .slice aw out.length dw) Bw.out rfl
        have Bwl := (Array.getElem?_eq_some_iff.1 Bw.out).1
        have Bxqc0 := cell_blk (j := 0) (v := .slice axq q.length dxq) Bxq.out rfl
        have Bxql := (Array.getElem?_eq_some_iff.1 Bxq.out).1
        have Bgc0 := cell_blk (j := 0) (v := .slice ag out.length dg) Bg.out rfl
        have Bgl := (Array.getElem?_eq_some_iff.1 Bg.out).1
        go_wp2_with fail
        clear Bpc0 Bqc0 Bwc0 Bxqc0 Bgc0 Bpl Bql Bwl Bxql Bgl
        refine (markRegion_any (Xxq.below (by repeat (first | exact Below.refl _ _ | refine below_ov _ _ ?_ (by first | omega | (simp [ov_size] <;> omega)) | refine Below.alloc ?_ (by first | omega | (simp [ov_size] <;> omega)) _ | refine Below.setCell ?_ (by first | omega | (simp [ov_size] <;> omega)) _ | refine Below.drew ?_ | refine below_drewN ?_ _))) (by omega) ⟨by omega, by omega⟩).mono ?_
        rintro e W12 ⟨rfl, Yxq, hg⟩
        have K : W11.grownBy W12 _ := grown_pre (by exact (by repeat (first | exact Below.refl _ _ | refine below_ov _ _ ?_ (by first | omega | (simp [ov_size] <;> omega)) | refine Below.alloc ?_ (by first | omega | (simp [ov_size] <;> omega)) _ | refine Below.setCell ?_ (by first | omega | (simp [ov_size] <;> omega)) _ | refine Below.drew ?_ | refine below_drewN ?_ _))) hg
        clear hg
        replace T := grown_below T K (fun k hk => (Xxq.lt k hk).1) (Nat.le_refl _)
        replace Bp := box_grown Bp K (Xxq.ne_box Bp.out (by decide))
        replace Bq := box_grown Bq K (Xxq.ne_box Bq.out (by decide))
        replace Bw := box_grown Bw K (Xxq.ne_box Bw.out (by decide))
        replace Bxq := box_grown Bxq K (Xxq.ne_box Bxq.out (by decide))
        replace Bg := box_grown Bg K (Xxq.ne_box Bg.out (by decide))
        replace Xw := Xw.grown Xxq K apXwXxq.symm
        replace Xg := Xg.grown Xxq K apXxqXg
        clear K Sp Sq Xxq Yxq
        have Sp := Rp.below (TV.trans (T.mono s0))
        have Sq := Rq.below (TV.trans (T.mono s0))
        clear Bxq
        have Bpc0 := cell_blk (j := 0) (v := .slice Ap p.length cp) Bp.out rfl
        have Bpl := (Array.getElem?_eq_some_iff.1 Bp.out).1
        have Bqc0 := cell_blk (j := 0) (v := .slice Aq q.length cq) Bq.out rfl
        have Bql := (Array.getElem?_eq_some_iff.1 Bq.out).1
        have Bwc0 := cell_blk (j := 0) (v := .slice aw out.length dw) Bw.out rfl
        have Bwl := (Array.getElem?_eq_some_iff.1 Bw.out).1
        have Bgc0 := cell_blk (j := 0) (v := .slice ag out.length dg) Bg.out rfl
        have Bgl := (Array.getElem?_eq_some_iff.1 Bg.out).1
        go_wp2_with fail
        clear Bpc0 Bqc0 Bwc0 Bgc0 Bpl Bql Bwl Bgl
        refine (calls_ov (eqRegion_same (by exact (Xg.below (by repeat (first | exact Below.refl _ _ | refine below_ov _ _ ?_ (by first | omega | (simp [ov_size] <;> omega)) | refine Below.alloc ?_ (by first | omega | (simp [ov_size] <;> omega)) _ | refine Below.setCell ?_ (by first | omega | (simp [ov_size] <;> omega)) _ | refine Below.drew ?_ | refine below_drewN ?_ _))).r3) (by exact (Xw.below (by repeat (first | exact Below.refl _ _ | refine below_ov _ _ ?_ (by first | omega | (simp [ov_size] <;> omega)) | refine Below.alloc ?_ (by first | omega | (simp [ov_size] <;> omega)) _ | refine Below.setCell ?_ (by first | omega | (simp [ov_size] <;> omega)) _ | refine Below.drew ?_ | refine below_drewN ?_ _))).r3) (by omega))).mono ?_
        rintro e w' ⟨rfl, x, rfl⟩
        obtain ⟨W13, hW⟩ : ∃ W13, W13 = ov W12 x := ⟨_, rfl⟩
        rw [← hW]
        have K : Below W12.heap.size W12 W13 := by rw [hW]; exact (by repeat (first | exact Below.refl _ _ | refine below_ov _ _ ?_ (by first | omega | (simp [ov_size] <;> omega)) | refine Below.alloc ?_ (by first | omega | (simp [ov_size] <;> omega)) _ | refine Below.setCell ?_ (by first | omega | (simp [ov_size] <;> omega)) _ | refine Below.drew ?_ | refine below_drewN ?_ _))
        clear hW
        replace T := T.trans (K.mono T.size)
        replace Bp := box_below Bp K
        replace Bq := box_below Bq K
        replace Bw := box_below Bw K
        replace Bg := box_below Bg K
        replace Xw := Xw.below K
        replace Xg := Xg.below K
        clear K Sp Sq
        have Sp := Rp.below (TV.trans (T.mono s0))
        have Sq := Rq.below (TV.trans (T.mono s0))
        have Bpc0 := cell_blk (j := 0) (v := .slice Ap p.length cp) Bp.out rfl
        have Bpl := (Array.getElem?_eq_some_iff.1 Bp.out).1
        have Bqc0 := cell_blk (j := 0) (v := .slice Aq q.length cq) Bq.out rfl
        have Bql := (Array.getElem?_eq_some_iff.1 Bq.out).1
        have Bwc0 := cell_blk (j := 0) (v := .slice aw out.length dw) Bw.out rfl
        have Bwl := (Array.getElem?_eq_some_iff.1 Bw.out).1
        have Bgc0 := cell_blk (j := 0) (v := .slice ag out.length dg) Bg.out rfl
        have Bgl := (Array.getElem?_eq_some_iff.1 Bg.out).1
        go_wp2_with fail
        clear Bpc0 Bqc0 Bwc0 Bgc0 Bpl Bql Bwl Bgl
        refine (markRegion_any (Xg.below (by repeat (first | exact Below.refl _ _ | refine below_ov _ _ ?_ (by first | omega | (simp [ov_size] <;> omega)) | refine Below.alloc ?_ (by first | omega | (simp [ov_size] <;> omega)) _ | refine Below.setCell ?_ (by first | omega | (simp [ov_size] <;> omega)) _ | refine Below.drew ?_ | refine below_drewN ?_ _))) (by omega) ⟨by omega, by omega⟩).mono ?_
        rintro e W14 ⟨rfl, Yg, hg⟩
        have K : W13.grownBy W14 _ := grown_pre (by exact (by repeat (first | exact Below.refl _ _ | refine below_ov _ _ ?_ (by first | omega | (simp [ov_size] <;> omega)) | refine Below.alloc ?_ (by first | omega | (simp [ov_size] <;> omega)) _ | refine Below.setCell ?_ (by first | omega | (simp [ov_size] <;> omega)) _ | refine Below.drew ?_ | refine below_drewN ?_ _))) hg
        clear hg
        replace T := grown_below T K (fun k hk => (Xg.lt k hk).1) (Nat.le_refl _)
        replace Bp := box_grown Bp K (Xg.ne_box Bp.out (by decide))
        replace Bq := box_grown Bq K (Xg.ne_box Bq.out (by decide))
        replace Bw := box_grown Bw K (Xg.ne_box Bw.out (by decide))
        replace Bg := box_grown Bg K (Xg.ne_box Bg.out (by decide))
        replace Xw := Xw.grown Xg K apXwXg.symm
        clear K Sp Sq Xg
        have Sp := Rp.below (TV.trans (T.mono s0))
        have Sq := Rq.below (TV.trans (T.mono s0))
        have Bpc0 := cell_blk (j := 0) (v := .slice Ap p.length cp) Bp.out rfl
        have Bpl := (Array.getElem?_eq_some_iff.1 Bp.out).1
        have Bqc0 := cell_blk (j := 0) (v := .slice Aq q.length cq) Bq.out rfl
        have Bql := (Array.getElem?_eq_some_iff.1 Bq.out).1
        have Bwc0 := cell_blk (j := 0) (v := .slice aw out.length dw) Bw.out rfl
        have Bwl := (Array.getElem?_eq_some_iff.1 Bw.out).1
        have Bgc0 := cell_blk (j := 0) (v := .slice ag out.length dg) Bg.out rfl
        have Bgl := (Array.getElem?_eq_some_iff.1 Bg.out).1
        go_wp2_with fail
        clear Bpc0 Bqc0 Bwc0 Bgc0 Bpl Bql Bwl Bgl
        refine (calls_ov (heldRegion_any (by exact (Yg.below (by repeat (first | exact Below.refl _ _ | refine below_ov _ _ ?_ (by first | omega | (simp [ov_size] <;> omega)) | refine Below.alloc ?_ (by first | omega | (simp [ov_size] <;> omega)) _ | refine Below.setCell ?_ (by first | omega | (simp [ov_size] <;> omega)) _ | refine Below.drew ?_ | refine below_drewN ?_ _))).r3) (by omega))).mono ?_
        rintro e w' ⟨rfl, x, rfl⟩
        obtain ⟨W15, hW⟩ : ∃ W15, W15 = ov W14 x := ⟨_, rfl⟩
        rw [← hW]
        have K : Below W14.heap.size W14 W15 := by rw [hW]; exact (by repeat (first | exact Below.refl _ _ | refine below_ov _ _ ?_ (by first | omega | (simp [ov_size] <;> omega)) | refine Below.alloc ?_ (by first | omega | (simp [ov_size] <;> omega)) _ | refine Below.setCell ?_ (by first | omega | (simp [ov_size] <;> omega)) _ | refine Below.drew ?_ | refine below_drewN ?_ _))
        clear hW
        replace T := T.trans (K.mono T.size)
        replace Bp := box_below Bp K
        replace Bq := box_below Bq K
        replace Bw := box_below Bw K
        replace Bg := box_below Bg K
        replace Xw := Xw.below K
        replace Yg := Yg.below K
        clear K Sp Sq
        have Sp := Rp.below (TV.trans (T.mono s0))
        have Sq := Rq.below (TV.trans (T.mono s0))
        have Bpc0 := cell_blk (j := 0) (v := .slice Ap p.length cp) Bp.out rfl
        have Bpl := (Array.getElem?_eq_some_iff.1 Bp.out).1
        have Bqc0 := cell_blk (j := 0) (v := .slice Aq q.length cq) Bq.out rfl
        have Bql := (Array.getElem?_eq_some_iff.1 Bq.out).1
        have Bwc0 := cell_blk (j := 0) (v := .slice aw out.length dw) Bw.out rfl
        have Bwl := (Array.getElem?_eq_some_iff.1 Bw.out).1
        have Bgc0 := cell_blk (j := 0) (v := .slice ag out.length dg) Bg.out rfl
        have Bgl := (Array.getElem?_eq_some_iff.1 Bg.out).1
        go_wp2_with fail
        clear Bpc0 Bqc0 Bwc0 Bgc0 Bpl Bql Bwl Bgl
        have Bpc0 := cell_blk (j := 0) (v := .slice Ap p.length cp) Bp.out rfl
        have Bpl := (Array.getElem?_eq_some_iff.1 Bp.out).1
        have Bqc0 := cell_blk (j := 0) (v := .slice Aq q.length cq) Bq.out rfl
        have Bql := (Array.getElem?_eq_some_iff.1 Bq.out).1
        have Bwc0 := cell_blk (j := 0) (v := .slice aw out.length dw) Bw.out rfl
        have Bwl := (Array.getElem?_eq_some_iff.1 Bw.out).1
        have Bgc0 := cell_blk (j := 0) (v := .slice ag out.length dg) Bg.out rfl
        have Bgl := (Array.getElem?_eq_some_iff.1 Bg.out).1
        refine wp_region_rel [.pur [] ?d4c0, .rel [] [1] false (IsOw (GReg p)), .pur [] ?d4c2, .rel [] [3] false (IsOw (GReg q)), .rel [1, 3] [4] false (IsOw (GTup out ok)), .rel [4] [5] false (IsOw (GTup out ok)), .rel [5] [6] false (IsOw (GReg out)), .pur [5] ?d4c7, .rel [] [8] false (IsAl 34 1), .rel [8, 6] [8, 6] true (IsSt 34), .pur [] ?d4c10] _ rfl rfl (by kernel_rfl) (by kernel_rfl) ?hstd4 (fun vs => ?walkd4)
        case' walkd4 =>
          (refine wpRel_pur rfl rfl (fun x => by ((go_wp2); refine relEnd_pur rfl ?_ (by repeat (first | exact Below.refl _ _ | refine below_ov _ _ ?_ (by first | omega | (simp [ov_size] <;> omega)) | refine Below.alloc ?_ (by first | omega | (simp [ov_size] <;> omega)) _ | refine Below.setCell ?_ (by first | omega | (simp [ov_size] <;> omega)) _ | refine Below.drew ?_ | refine below_drewN ?_ _)); simp only [Act.put, List.setIfInBounds_toArray, List.set_cons_succ, List.set_cons_zero]; rfl)) ?_; simp only [Act.put, List.setIfInBounds_toArray, List.set_cons_succ, List.set_cons_zero])
          refine wpRel_own rfl rfl rfl (fun x hh => ?_) ?_
          · go_wp2_with fail
            refine (toRegion_any (Sp.below (by repeat (first | exact Below.refl _ _ | refine below_ov _ _ ?_ (by first | omega | (simp [ov_size] <;> omega)) | refine Below.alloc ?_ (by first | omega | (simp [ov_size] <;> omega)) _ | refine Below.setCell ?_ (by first | omega | (simp [ov_size] <;> omega)) _ | refine Below.drew ?_ | refine below_drewN ?_ _))) (by omega)).mono ?_
            rintro e w7 ⟨a7, d7, rfl, Q7, hb7⟩
            go_wp2
            refine relEnd_ow rfl rfl ?_ hb7 ⟨a7, d7, rfl, Q7.weak (by rw [ov_size]; omega)⟩
            (simp only [Act.put, List.setIfInBounds_toArray, List.set_cons_succ, List.set_cons_zero] <;> rfl)
          simp only [Act.put, List.setIfInBounds_toArray, List.set_cons_succ, List.set_cons_zero]
          (refine wpRel_pur rfl rfl (fun x => by ((go_wp2); refine relEnd_pur rfl ?_ (by repeat (first | exact Below.refl _ _ | refine below_ov _ _ ?_ (by first | omega | (simp [ov_size] <;> omega)) | refine Below.alloc ?_ (by first | omega | (simp [ov_size] <;> omega)) _ | refine Below.setCell ?_ (by first | omega | (simp [ov_size] <;> omega)) _ | refine Below.drew ?_ | refine below_drewN ?_ _)); simp only [Act.put, List.setIfInBounds_toArray, List.set_cons_succ, List.set_cons_zero]; rfl)) ?_; simp only [Act.put, List.setIfInBounds_toArray, List.set_cons_succ, List.set_cons_zero])
          refine wpRel_own rfl rfl rfl (fun x hh => ?_) ?_
          · go_wp2_with fail
            refine (toRegion_any (Sq.below (by repeat (first | exact Below.refl _ _ | refine below_ov _ _ ?_ (by first | omega | (simp [ov_size] <;> omega)) | refine Below.alloc ?_ (by first | omega | (simp [ov_size] <;> omega)) _ | refine Below.setCell ?_ (by first | omega | (simp [ov_size] <;> omega)) _ | refine Below.drew ?_ | refine below_drewN ?_ _))) (by omega)).mono ?_
            rintro e w7 ⟨a7, d7, rfl, Q7, hb7⟩
            go_wp2
            refine relEnd_ow rfl rfl ?_ hb7 ⟨a7, d7, rfl, Q7.weak (by rw [ov_size]; omega)⟩
            (simp only [Act.put, List.setIfInBounds_toArray, List.set_cons_succ, List.set_cons_zero] <;> rfl)
          simp only [Act.put, List.setIfInBounds_toArray, List.set_cons_succ, List.set_cons_zero]
          refine wpRel_own rfl rfl rfl (fun x hh => ?_) ?_
          · obtain ⟨ao1, do1, f1, Qo1⟩ := isOw_at (hh 1 (by simp)) rfl
            simp only [f1]
            obtain ⟨ao3, do3, f3, Qo3⟩ := isOw_at (hh 3 (by simp)) rfl
            simp only [f3]
            go_wp2_with fail
            refine (impl_ErodeRegion_eq Qo1.r3 (by omega) Qo3.r3 (by omega) HR).mono ?_
            rintro e w7 ⟨a7, d7, rfl, Q7, hb7⟩
            go_wp2
            refine relEnd_ow rfl rfl ?_ hb7 ⟨a7, d7, rfl, Q7.weak (by rw [ov_size]; omega)⟩
            (simp only [Act.put, List.setIfInBounds_toArray, List.set_cons_succ, List.set_cons_zero] <;> rfl)
          simp only [Act.put, List.setIfInBounds_toArray, List.set_cons_succ, List.set_cons_zero]
          refine wpRel_own rfl rfl rfl (fun x hh => ?_) ?_
          · obtain ⟨aoo, doo, fo, Qoo⟩ := isOw_at (hh 4 (by simp)) rfl
            simp only [fo]
            go_wp2
            refine relEnd_ow rfl rfl ?_ (Below.refl _ _) ⟨aoo, doo, rfl, Qoo⟩
            (simp only [Act.put, List.setIfInBounds_toArray, List.set_cons_succ, List.set_cons_zero] <;> rfl)
          simp only [Act.put, List.setIfInBounds_toArray, List.set_cons_succ, List.set_cons_zero]
          refine wpRel_own rfl rfl rfl (fun x hh => ?_) ?_
          · obtain ⟨aoo, doo, fo, Qoo⟩ := isOw_at (hh 5 (by simp)) rfl
            simp only [fo]
            go_wp2
            refine relEnd_ow rfl rfl ?_ (Below.refl _ _) ⟨aoo, doo, rfl, Qoo⟩
            (simp only [Act.put, List.setIfInBounds_toArray, List.set_cons_succ, List.set_cons_zero] <;> rfl)
          simp only [Act.put, List.setIfInBounds_toArray, List.set_cons_succ, List.set_cons_zero]
          (refine wpRel_purn rfl rfl (fun x hh => by ((obtain ⟨aoo, doo, fo, Qoo⟩ := isOw_at (hh 5 (by simp)) rfl; simp only [fo]); (go_wp2); refine relEnd_pur rfl ?_ (by repeat (first | exact Below.refl _ _ | refine below_ov _ _ ?_ (by first | omega | (simp [ov_size] <;> omega)) | refine Below.alloc ?_ (by first | omega | (simp [ov_size] <;> omega)) _ | refine Below.setCell ?_ (by first | omega | (simp [ov_size] <;> omega)) _ | refine Below.drew ?_ | refine below_drewN ?_ _)); simp only [Act.put, List.setIfInBounds_toArray, List.set_cons_succ, List.set_cons_zero]; rfl)) ?_; simp only [Act.put, List.setIfInBounds_toArray, List.set_cons_succ, List.set_cons_zero])
          refine wpRel_al #[.slice none 0 0] rfl rfl rfl rfl rfl rfl (fun w => by simp [go_sem]) ?_
          simp only [Act.put, List.setIfInBounds_toArray, List.set_cons_succ, List.set_cons_zero]
          refine wpRel_so rfl rfl rfl rfl rfl rfl (by decide) (by decide) rfl rfl (by kernel_rfl) (fun w hw => by obtain ⟨aoo, doo, fo, Qoo⟩ := hw; rw [fo]; exact reg_cells _ _ _) (by repeat (first | exact all_nil | refine all_cons trivial ?_ | refine all_cons isAl_steady ?_ | refine all_cons (isOw_steady (by assumption)) ?_)) ?_
          (refine wpRel_pur rfl rfl (fun x => by ((go_wp2); refine relEnd_pur rfl ?_ (by repeat (first | exact Below.refl _ _ | refine below_ov _ _ ?_ (by first | omega | (simp [ov_size] <;> omega)) | refine Below.alloc ?_ (by first | omega | (simp [ov_size] <;> omega)) _ | refine Below.setCell ?_ (by first | omega | (simp [ov_size] <;> omega)) _ | refine Below.drew ?_ | refine below_drewN ?_ _)); simp only [Act.put, List.setIfInBounds_toArray, List.set_cons_succ, List.set_cons_zero]; rfl)) ?_; simp only [Act.put, List.setIfInBounds_toArray, List.set_cons_succ, List.set_cons_zero])
          refine wpRelE_nilB0 (fun W16 K hh => ?_)
          obtain ⟨bh, hen, hnb, hx⟩ := isSt_own (hh 9) rfl rfl rfl
          obtain ⟨ah, dh, fo, Xh⟩ := isOw_at (hh 6) rfl
          rw [fo] at hx
          simp only [hen]
          have Bh := Lib.hid hx
          clear hx hnb hen fo
          clear hh
          clear Bpc0 Bqc0 Bwc0 Bgc0 Bpl Bql Bwl Bgl
          have apXwXh := apart_new Xw Xh (by first | exact Nat.le_refl _ | (simp [ov_size]) | (simp [ov_size]; omega))
          have apYgXh := apart_new Yg Xh (by first | exact Nat.le_refl _ | (simp [ov_size]) | (simp [ov_size]; omega))
          replace Xh := Xh.weak (B' := V.heap.size) (by have := T.size; (try simp [ov_size]); omega)
          replace T := T.trans (K.mono T.size)
          replace Bp := box_below Bp K
          replace Bq := box_below Bq K
          replace Bw := box_below Bw K
          replace Bg := box_below Bg K
          replace Xw := Xw.below K
          replace Yg := Yg.below K
          clear K Sp Sq
          have Sp := Rp.below (TV.trans (T.mono s0))
          have Sq := Rq.below (TV.trans (T.mono s0))
          have Bpc0 := cell_blk (j := 0) (v := .slice Ap p.length cp) Bp.out rfl
          have Bpl := (Array.getElem?_eq_some_iff.1 Bp.out).1
          have Bqc0 := cell_blk (j := 0) (v := .slice Aq q.length cq) Bq.out rfl
          have Bql := (Array.getElem?_eq_some_iff.1 Bq.out).1
          have Bwc0 := cell_blk (j := 0) (v := .slice aw out.length dw) Bw.out rfl
          have Bwl := (Array.getElem?_eq_some_iff.1 Bw.out).1
          have Bgc0 := cell_blk (j := 0) (v := .slice ag out.length dg) Bg.out rfl
          have Bgl := (Array.getElem?_eq_some_iff.1 Bg.out).1
          have Bhc0 := cell_blk (j := 0) (v := .slice ah out.length dh) Bh.out rfl
          have Bhl := (Array.getElem?_eq_some_iff.1 Bh.out).1
          go_wp2_with (first | (go_at_call 41; (first | (with_reducible refine (calls_ov2 (heldRegion_any (by exact (Yg.below (by repeat (first | exact Below.refl _ _ | refine below_ov _ _ ?_ (by first | omega | (simp [ov_size] <;> omega)) | refine Below.alloc ?_ (by first | omega | (simp [ov_size] <;> omega)) _ | refine Below.setCell ?_ (by first | omega | (simp [ov_size] <;> omega)) _ | refine Below.drew ?_ | refine below_drewN ?_ _))).r3) (by omega))).mono ?_) | refine (calls_ov (heldRegion_any (by exact (Yg.below (by repeat (first | exact Below.refl _ _ | refine below_ov _ _ ?_ (by first | omega | (simp [ov_size] <;> omega)) | refine Below.alloc ?_ (by first | omega | (simp [ov_size] <;> omega)) _ | refine Below.setCell ?_ (by first | omega | (simp [ov_size] <;> omega)) _ | refine Below.drew ?_ | refine below_drewN ?_ _))).r3) (by omega))).mono ?_); rintro e w' ⟨rfl, x, rfl⟩) | (go_at_call 33; (first | (with_reducible refine (calls_ov2 (eqRegion_same (by exact (Xh.below (by repeat (first | exact Below.refl _ _ | refine below_ov _ _ ?_ (by first | omega | (simp [ov_size] <;> omega)) | refine Below.alloc ?_ (by first | omega | (simp [ov_size] <;> omega)) _ | refine Below.setCell ?_ (by first | omega | (simp [ov_size] <;> omega)) _ | refine Below.drew ?_ | refine below_drewN ?_ _))).r3) (by exact (Xw.below (by repeat (first | exact Below.refl _ _ | refine below_ov _ _ ?_ (by first | omega | (simp [ov_size] <;> omega)) | refine Below.alloc ?_ (by first | omega | (simp [ov_size] <;> omega)) _ | refine Below.setCell ?_ (by first | omega | (simp [ov_size] <;> omega)) _ | refine Below.drew ?_ | refine below_drewN ?_ _))).r3) (by omega))).mono ?_) | refine (calls_ov (eqRegion_same (by exact (Xh.below (by repeat (first | exact Below.refl _ _ | refine below_ov _ _ ?_ (by first | omega | (simp [ov_size] <;> omega)) | refine Below.alloc ?_ (by first | omega | (simp [ov_size] <;> omega)) _ | refine Below.setCell ?_ (by first | omega | (simp [ov_size] <;> omega)) _ | refine Below.drew ?_ | refine below_drewN ?_ _))).r3) (by exact (Xw.below (by repeat (first | exact Below.refl _ _ | refine below_ov _ _ ?_ (by first | omega | (simp [ov_size] <;> omega)) | refine Below.alloc ?_ (by first | omega | (simp [ov_size] <;> omega)) _ | refine Below.setCell ?_ (by first | omega | (simp [ov_size] <;> omega)) _ | refine Below.drew ?_ | refine below_drewN ?_ _))).r3) (by omega))).mono ?_); rintro e w' ⟨rfl, x, rfl⟩))
          go_ret
          exact ⟨rfl, (by repeat (first | exact TV.trans (T.mono s0) | refine below_ov _ _ ?_ (by first | omega | (simp [ov_size] <;> omega)) | refine Below.alloc ?_ (by first | omega | (simp [ov_size] <;> omega)) _ | refine Below.setCell ?_ (by first | omega | (simp [ov_size] <;> omega)) _ | refine Below.drew ?_ | refine below_drewN ?_ _))⟩
        case' hstd4 => exact (by repeat (first | exact all_nil | refine all_cons trivial ?_ | refine all_cons isAl_stable ?_ | refine all_cons isSt_stable ?_ | refine all_cons isStB_stable ?_ | refine all_cons (isOw_stable (by assumption)) ?_))
      case' hstd3 => exact (by repeat (first | exact all_nil | refine all_cons trivial ?_ | refine all_cons isAl_stable ?_ | refine all_cons isSt_stable ?_ | refine all_cons isStB_stable ?_ | refine all_cons (isOw_stable (by assumption)) ?_))
    case' hstd2 => exact (by repeat (first | exact all_nil | refine all_cons trivial ?_ | refine all_cons isAl_stable ?_ | refine all_cons isSt_stable ?_ | refine all_cons isStB_stable ?_ | refine all_cons (isOw_stable (by assumption)) ?_))
  case' hstd1 => exact (by repeat (first | exact all_nil | refine all_cons trivial ?_ | refine all_cons isAl_stable ?_ | refine all_cons isSt_stable ?_ | refine all_cons isStB_stable ?_ | refine all_cons (isOw_stable (by assumption)) ?_))
set_option maxRecDepth 100000 in
theorem FnExactErodeRegion_lifted (os : Os) (started : os.Started) (H : Type) (enc : TypeId × Value → H) :
    ReturnsInHanded {} Try.checked os 9 .any (Rows.fnExactErodeRegionSpec.pre6 enc Try.prog Try.f9 Rows.fnExactErodeRegionRow.domain false) (Rows.fnExactErodeRegionSpec.post enc Try.prog Try.f9 false true false false) := by
  refine returnsInHanded_of_change (C := Try.checked) own started (by kernel_rfl) Try.func9
    (ChangeSpec.witness6 (enc := enc) (C := Try.checked) false ⟨#[], #[.agg #[.slice none 0 0], .agg #[.slice none 0 0]], []⟩ 8 (by kernel_rfl) (by kernel_rfl) (by kernel_rfl) (by kernel_rfl)) ?_
  intro W base args ds gs before hval0 hW hcnd _
  have hval : ∀ (j : Nat) t v, Try.f9.params[j]? = some t → args[j]? = some v → Value.okWide Try.prog W .any base t v := hval0
  have hW' := hW
  obtain ⟨p, q, hA0, hV, rfl, hfz, hnd⟩ := hW
  have hA : DataW.TrodAll enc Try.prog W 0 (fun _ => true) true Try.f9.params.toList args.toList ds p := hA0
  rw [Try.params9] at hA hval
  obtain ⟨v0, vs0, d0, ds0, p0, q0, hargs0, rfl, rfl, h0, r0⟩ := trodAll_cons hA
  obtain ⟨v1, vs1, d1, ds1, p1, q1, hargs1, rfl, rfl, h1, r1⟩ := trodAll_cons r0
  obtain ⟨rfl, rfl, rfl⟩ := trodAll_nil r1
  obtain rfl : args = #[v0, v1] := by cases args; simp_all
  obtain ⟨rfl, rfl⟩ := trodVars_none hV
  have k0 := h0
  have lt0 : ∀ x ∈ p0, x.block < W.heap.size := by obtain ⟨m, hm⟩ := k0; exact DataW.trod_lt m _ _ _ hm
  have k1 := h1
  have lt1 : ∀ x ∈ p1, x.block < W.heap.size := by obtain ⟨m, hm⟩ := k1; exact DataW.trod_lt m _ _ _ hm
  have hv0 := hval 0 25 v0 rfl rfl
  have hv1 := hval 1 25 v1 rfl rfl
  obtain ⟨A0, c0, hs0, rfl, RR0, hlen0⟩ := open_region hv0 h0
  obtain ⟨A1, c1, hs1, rfl, RR1, hlen1⟩ := open_region hv1 h1
  clear hA0 hval0
  refine (law27_any W RR0 hlen0 RR1 hlen1).mono fun e W' ⟨he, bel⟩ => ?_
  subst he
  exact ⟨_, rfl, _, _, _, [], _, [], hW', trodAll_mk1 (shut_bool Try.underlying4 _), (trodAll_cons_mk (Below.trod laidOut (by kernel_rfl) (of_decide_eq_true (by kernel_rfl)) k0 bel lt0) (trodAll_cons_mk (Below.trod laidOut (by kernel_rfl) (of_decide_eq_true (by kernel_rfl)) k1 bel lt1) trodAll_mk0)), rfl, bel.frame _, fun h => by cases h⟩

theorem FnExactErodeRegion_holds : Rows.FnExactErodeRegionSaid :=
  OpenClaim.holds_of_wide 9 Try.f9 rfl rfl rfl rfl rfl rfl rfl ⟨rfl, rfl, rfl, rfl, rfl⟩ rfl rfl rfl rfl rfl (by kernel_rfl) Try.func9 (by kernel_rfl)
    (of_decide_eq_true (by kernel_rfl)) (by unfold Func.isWrapper; first | (rw [if_pos (by decide +kernel)]; kernel_rfl) | (rw [if_neg (by decide +kernel)]; exact ⟨rfl, rfl⟩))
    (fun os started H enc _ => FnExactErodeRegion_lifted os started H enc)
#print axioms FnExactErodeRegion_holds

end Go.Proofs.Ytgdleimdenbnlaa
