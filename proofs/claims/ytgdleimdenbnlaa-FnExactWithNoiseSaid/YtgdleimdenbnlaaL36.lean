/- FnExactWithNoise returns true for every argument, and leaves it as it was. No condition. -/
import Derived.Test.YtgdleimdenbnlaaWr
set_option linter.unusedVariables false
set_option linter.unusedSimpArgs false
set_option linter.unusedSectionVars false
namespace Go.Proofs.Ytgdleimdenbnlaa
open Go.ChangeShapes Go.WideShapes Go.ChangeAt Go.RowKit Go.Joins

set_option maxRecDepth 100000 in
set_option maxHeartbeats 8000000 in
theorem law36_any {rr : RoomV} {Arr1 Arr2 Arr3 : Option Addr} {crr1 crr2 crr3 : Nat} {p : List H3} {Ap : Option Addr} {cp : Nat} (w : World) (Rrr : RLM w rr Arr1 Arr2 Arr3) (hlrr : rr.InL) (Rp : RL w Ap p) (hlp : p.length ≤ 9223372036854775807) :
    Calls Try.prog 7 #[.agg #[.slice Arr1 rr.m.length crr1, .int .i64 rr.q, .int .i64 rr.bx, .int .i64 rr.by_, .int .i64 rr.lo, .int .i64 rr.hi, .slice Arr2 rr.ns.length crr2, .slice Arr3 rr.ls.length crr3], .agg #[.slice Ap p.length cp]] w fun e w' => e = .returned (.bool true) ∧ Below w.heap.size w w' := by
  obtain ⟨zrr, hzrr⟩ : ∃ z, szRm rr (1048576 : Int) = z := ⟨_, rfl⟩
  have HZrr := Lib.hid hzrr
  by_cases hcrr : zrr < 0
  · clear hzrr
    go_enter Try.func7, Try.ntmps7
    go_wp2_with (first | (go_at_call 13; (first | (with_reducible refine (calls_ov2 (szRoom_eq HZrr hlrr ⟨by omega, by omega⟩)).mono ?_) | refine (calls_ov (szRoom_eq HZrr hlrr ⟨by omega, by omega⟩)).mono ?_); rintro e w' ⟨rfl, x, rfl⟩))
    go_ret
    exact ⟨rfl, (by repeat (first | exact bR | refine bO ?_ | refine bA ?_ | refine bS ?_ | refine bD ?_ | refine bN ?_))⟩
  have hmrr := szRm_bd hzrr (by omega) (by omega)
  have hmmrr := hmrr.1
  have hmnrr := hmrr.2.1
  have hmlrr := hmrr.2.2.1
  have hzbrr := hmrr.2.2.2
  have hsrr : rr.Short := ⟨hmmrr, hmnrr, hmlrr⟩
  clear hmrr
  obtain ⟨zp, hzp⟩ : ∃ z, szL p.length zrr = z := ⟨_, rfl⟩
  have HZp := Lib.hid hzp
  by_cases hcp : zp < 0
  · clear hzrr hzp
    go_enter Try.func7, Try.ntmps7
    go_wp2_with (first | (go_at_call 13; (first | (with_reducible refine (calls_ov2 (szRoom_eq HZrr hlrr ⟨by omega, by omega⟩)).mono ?_) | refine (calls_ov (szRoom_eq HZrr hlrr ⟨by omega, by omega⟩)).mono ?_); rintro e w' ⟨rfl, x, rfl⟩) | (go_at_call 29; (first | (with_reducible refine (calls_ov2 (szRegion_eq (by exact HZp) (by omega) ⟨by omega, by omega⟩)).mono ?_) | refine (calls_ov (szRegion_eq (by exact HZp) (by omega) ⟨by omega, by omega⟩)).mono ?_); rintro e w' ⟨rfl, x, rfl⟩))
    go_ret
    exact ⟨rfl, (by repeat (first | exact bR | refine bO ?_ | refine bA ?_ | refine bS ?_ | refine bD ?_ | refine bN ?_))⟩
  have hmp : p.length ≤ 1048576 ∧ zp ≤ 1048576 := by unfold szL at hzp; split at hzp <;> omega
  have hmmp := hmp.1
  have hzbp := hmp.2
  clear hmp
  obtain ⟨⟨out, ok⟩, hr⟩ : ∃ r, withR rr (noiseX rr p) = r := ⟨_, rfl⟩
  have ho := withR_short (noiseX_short hsrr (by omega)) hr
  have HR := Lib.hid hr
  have ORrr0 := owned_room (T := 34) (by decide) (by decide) rr
  have ORrr1 := owned_room (T := 36) (by decide) (by decide) rr
  have ORp0 := owned_regT (T := 34) (by decide) p
  have ORp1 := owned_regT (T := 36) (by decide) p
  have OO0 := owned_roomN (T := 34) (by decide) (by decide) out
  have OT0 := owned_rtupN (T := 34) (by decide) (by decide) out ok
  have OO1 := owned_roomN (T := 36) (by decide) (by decide) out
  have OT1 := owned_rtupN (T := 36) (by decide) (by decide) out ok
  clear hr hzrr hzp
  have hne : (ok != ok) = false := by simp
  go_enter Try.func7, Try.ntmps7
  go_wp2_with (first | (go_at_call 13; (first | (with_reducible refine (calls_ov2 (szRoom_eq HZrr hlrr ⟨by omega, by omega⟩)).mono ?_) | refine (calls_ov (szRoom_eq HZrr hlrr ⟨by omega, by omega⟩)).mono ?_); rintro e w' ⟨rfl, x, rfl⟩) | (go_at_call 29; (first | (with_reducible refine (calls_ov2 (szRegion_eq (by exact HZp) (by omega) ⟨by omega, by omega⟩)).mono ?_) | refine (calls_ov (szRegion_eq (by exact HZp) (by omega) ⟨by omega, by omega⟩)).mono ?_); rintro e w' ⟨rfl, x, rfl⟩))
  obtain ⟨V, hV⟩ : ∃ V, ((w.alloc (.cells #[.slice Arr1 rr.m.length crr1, .int .i64 rr.q, .int .i64 rr.bx, .int .i64 rr.by_, .int .i64 rr.lo, .int .i64 rr.hi, .slice Arr2 rr.ns.length crr2, .slice Arr3 rr.ls.length crr3] 27)).alloc (.cells #[.slice Ap p.length cp] 25)) = V := ⟨_, rfl⟩
  have TV : Below w.heap.size w V := by rw [← hV]; exact (by repeat (first | exact bR | refine bO ?_ | refine bA ?_ | refine bS ?_ | refine bD ?_ | refine bN ?_))
  have X0 : V.heap[w.heap.size]? = some (.cells #[.slice Arr1 rr.m.length crr1, .int .i64 rr.q, .int .i64 rr.bx, .int .i64 rr.by_, .int .i64 rr.lo, .int .i64 rr.hi, .slice Arr2 rr.ns.length crr2, .slice Arr3 rr.ls.length crr3] 27 (0, 0)) := by rw [← hV]; exact ((heap_old_at (by first | (simp; done) | (simp <;> omega))).trans (heap_new_at (by simp) rfl))
  have X1 : V.heap[w.heap.size + 1]? = some (.cells #[.slice Ap p.length cp] 25 (0, 0)) := by rw [← hV]; exact (heap_new_at (by simp) rfl)
  rw [hV]
  clear hV
  generalize w.heap.size + 1 = ba1 at X1 ⊢
  obtain ⟨W0, hW⟩ : ∃ W0, W0 = ov V x := ⟨_, rfl⟩
  rw [← hW]
  have T : Below V.heap.size V W0 := by rw [hW]; exact (by repeat (first | exact bR | refine bO ?_ | refine bA ?_ | refine bS ?_ | refine bD ?_ | refine bN ?_))
  clear hW
  have Brr := box_below (Lib.hid X0) T
  clear X0
  have Bp := box_below (Lib.hid X1) T
  clear X1
  have s0 : w.heap.size ≤ V.heap.size := TV.size
  have Srr := Rrr.below (TV.trans (T.mono s0))
  have Sp := Rp.below (TV.trans (T.mono s0))
  obtain ⟨Brrc0, Brrc1, Brrc2, Brrc3, Brrc4, Brrc5, Brrc6, Brrc7, Brrl⟩ := cb8 Brr
  obtain ⟨Bpc0, Bpl⟩ := cb1 Bp
  refine wp_region_rel [.pur [] ?d1c0, .rel [] [1] false (IsOw (GRoom rr)), .pur [] ?d1c2, .rel [] [3] false (IsOw (GReg p)), .rel [1, 3] [4] false (IsOw (GRTupN out ok)), .rel [4] [5] false (IsOw (GRTupN out ok)), .rel [5] [6] false (IsOw (GRoomN out)), .pur [5] ?d1c7, .rel [] [8] false (IsAl 36 8), .rel [8, 6] [8, 6] true (IsSt 36), .pur [] ?d1c10] _ rfl rfl (by kernel_rfl) (by kernel_rfl) ?hstd1 (fun vs => ?walkd1)
  case' walkd1 =>
    (refine wpRel_pur rfl rfl (fun x => by ((go_wp2); refine relEnd_pur rfl ?_ (by repeat (first | exact bR | refine bO ?_ | refine bA ?_ | refine bS ?_ | refine bD ?_ | refine bN ?_)); simp only [Act.put, List.setIfInBounds_toArray, List.set_cons_succ, List.set_cons_zero]; rfl)) ?_; simp only [Act.put, List.setIfInBounds_toArray, List.set_cons_succ, List.set_cons_zero])
    refine wpRel_own rfl rfl rfl (fun x hh => ?_) ?_
    · go_wp2_with fail
      refine (toRoom_any rr (Srr.below (by repeat (first | exact bR | refine bO ?_ | refine bA ?_ | refine bS ?_ | refine bD ?_ | refine bN ?_))) hsrr).mono ?_
      rintro e w7 ⟨a71, d71, a72, d72, a73, d73, rfl, Q7, hb7⟩
      go_wp2
      refine relEnd_ow rfl rfl ?_ hb7 ⟨a71, d71, a72, d72, a73, d73, rfl, Q7.weak (by rw [ov_size]; omega)⟩
      (simp only [Act.put, List.setIfInBounds_toArray, List.set_cons_succ, List.set_cons_zero] <;> rfl)
    simp only [Act.put, List.setIfInBounds_toArray, List.set_cons_succ, List.set_cons_zero]
    (refine wpRel_pur rfl rfl (fun x => by ((go_wp2); refine relEnd_pur rfl ?_ (by repeat (first | exact bR | refine bO ?_ | refine bA ?_ | refine bS ?_ | refine bD ?_ | refine bN ?_)); simp only [Act.put, List.setIfInBounds_toArray, List.set_cons_succ, List.set_cons_zero]; rfl)) ?_; simp only [Act.put, List.setIfInBounds_toArray, List.set_cons_succ, List.set_cons_zero])
    refine wpRel_own rfl rfl rfl (fun x hh => ?_) ?_
    · go_wp2_with fail
      refine (toRegion_any (Sp.below (by repeat (first | exact bR | refine bO ?_ | refine bA ?_ | refine bS ?_ | refine bD ?_ | refine bN ?_))) (by omega)).mono ?_
      rintro e w7 ⟨a7, d7, rfl, Q7, hb7⟩
      go_wp2
      refine relEnd_ow rfl rfl ?_ hb7 ⟨a7, d7, rfl, Q7.weak (by rw [ov_size]; omega)⟩
      (simp only [Act.put, List.setIfInBounds_toArray, List.set_cons_succ, List.set_cons_zero] <;> rfl)
    simp only [Act.put, List.setIfInBounds_toArray, List.set_cons_succ, List.set_cons_zero]
    refine wpRel_own rfl rfl rfl (fun x hh => ?_) ?_
    · obtain ⟨ao11, do11, ao12, do12, ao13, do13, f1, Qo1⟩ := isOw_at (hh 1 (by simp)) rfl
      simp only [f1]
      obtain ⟨ao3, do3, f3, Qo3⟩ := isOw_at (hh 3 (by simp)) rfl
      simp only [f3]
      go_wp2_with fail
      refine (spec_WithNoise_eq Qo1.rm hsrr Qo3.r3 (by omega) HR).mono ?_
      rintro e w7 ⟨a71, d71, a72, d72, a73, d73, rfl, Q7, hb7⟩
      go_wp2
      refine relEnd_ow rfl rfl ?_ hb7 ⟨a71, d71, a72, d72, a73, d73, rfl, Q7.weak (by rw [ov_size]; omega)⟩
      (simp only [Act.put, List.setIfInBounds_toArray, List.set_cons_succ, List.set_cons_zero] <;> rfl)
    simp only [Act.put, List.setIfInBounds_toArray, List.set_cons_succ, List.set_cons_zero]
    refine wpRel_own rfl rfl rfl (fun x hh => ?_) ?_
    · obtain ⟨aoo1, doo1, aoo2, doo2, aoo3, doo3, fo, Qoo⟩ := isOw_at (hh 4 (by simp)) rfl
      simp only [fo]
      go_wp2
      refine relEnd_ow rfl rfl ?_ (Below.refl _ _) ⟨aoo1, doo1, aoo2, doo2, aoo3, doo3, rfl, Qoo⟩
      (simp only [Act.put, List.setIfInBounds_toArray, List.set_cons_succ, List.set_cons_zero] <;> rfl)
    simp only [Act.put, List.setIfInBounds_toArray, List.set_cons_succ, List.set_cons_zero]
    refine wpRel_own rfl rfl rfl (fun x hh => ?_) ?_
    · obtain ⟨aoo1, doo1, aoo2, doo2, aoo3, doo3, fo, Qoo⟩ := isOw_at (hh 5 (by simp)) rfl
      simp only [fo]
      go_wp2
      refine relEnd_ow rfl rfl ?_ (Below.refl _ _) ⟨aoo1, doo1, aoo2, doo2, aoo3, doo3, rfl, Qoo⟩
      (simp only [Act.put, List.setIfInBounds_toArray, List.set_cons_succ, List.set_cons_zero] <;> rfl)
    simp only [Act.put, List.setIfInBounds_toArray, List.set_cons_succ, List.set_cons_zero]
    (refine wpRel_purn rfl rfl (fun x hh => by ((obtain ⟨aoo1, doo1, aoo2, doo2, aoo3, doo3, fo, Qoo⟩ := isOw_at (hh 5 (by simp)) rfl; simp only [fo]); (go_wp2); refine relEnd_pur rfl ?_ (by repeat (first | exact bR | refine bO ?_ | refine bA ?_ | refine bS ?_ | refine bD ?_ | refine bN ?_)); simp only [Act.put, List.setIfInBounds_toArray, List.set_cons_succ, List.set_cons_zero]; rfl)) ?_; simp only [Act.put, List.setIfInBounds_toArray, List.set_cons_succ, List.set_cons_zero])
    refine wpRel_al #[.slice none 0 0, .int .i64 0, .int .i64 0, .int .i64 0, .int .i64 0, .int .i64 0, .slice none 0 0, .slice none 0 0] rfl rfl rfl rfl rfl rfl (fun w => by simp [go_sem]) ?_
    simp only [Act.put, List.setIfInBounds_toArray, List.set_cons_succ, List.set_cons_zero]
    refine wpRel_so rfl rfl rfl rfl rfl rfl (by decide) (by decide) rfl rfl (by kernel_rfl) (fun w hw => by obtain ⟨aoo1, doo1, aoo2, doo2, aoo3, doo3, fo, Qoo⟩ := hw; rw [fo]; exact room_cells _ _ _ _ _ _ _ _ _ _ _ _ _ _) (by repeat (first | exact all_nil | refine all_cons trivial ?_ | refine all_cons isAl_steady ?_ | refine all_cons (isOw_steady (by assumption)) ?_)) ?_
    (refine wpRel_pur rfl rfl (fun x => by ((go_wp2); refine relEnd_pur rfl ?_ (by repeat (first | exact bR | refine bO ?_ | refine bA ?_ | refine bS ?_ | refine bD ?_ | refine bN ?_)); simp only [Act.put, List.setIfInBounds_toArray, List.set_cons_succ, List.set_cons_zero]; rfl)) ?_; simp only [Act.put, List.setIfInBounds_toArray, List.set_cons_succ, List.set_cons_zero])
    refine wpRelE_nilB0 (fun W1 K hh => ?_)
    obtain ⟨bw, hen, hnb, hx⟩ := isSt_own (hh 9) rfl rfl rfl
    obtain ⟨aXwi, dw1, awn, dw2, awl, dw3, fo, Xw⟩ := isOw_at (hh 6) rfl
    rw [fo] at hx
    simp only [hen]
    have Bw := Lib.hid hx
    clear hx hnb hen fo
    clear hh
    clear Brrc0 Brrc1 Brrc2 Brrc3 Brrc4 Brrc5 Brrc6 Brrc7 Bpc0 Brrl Bpl
    obtain ⟨Xwi, Xwn, Xwl, apXwnXwl⟩ := Xw
    replace Xwi := Xwi.weak (B' := V.heap.size) (by have := T.size; (try simp [ov_size]); omega)
    replace Xwn := Xwn.weak (B' := V.heap.size) (by have := T.size; (try simp [ov_size]); omega)
    replace Xwl := Xwl.weak (B' := V.heap.size) (by have := T.size; (try simp [ov_size]); omega)
    replace T := T.trans (K.mono T.size)
    replace Brr := box_below Brr K
    replace Bp := box_below Bp K
    clear K Srr Sp
    have Srr := Rrr.below (TV.trans (T.mono s0))
    have Sp := Rp.below (TV.trans (T.mono s0))
    obtain ⟨Brrc0, Brrc1, Brrc2, Brrc3, Brrc4, Brrc5, Brrc6, Brrc7, Brrl⟩ := cb8 Brr
    obtain ⟨Bpc0, Bpl⟩ := cb1 Bp
    obtain ⟨Bwc0, Bwc1, Bwc2, Bwc3, Bwc4, Bwc5, Bwc6, Bwc7, Bwl⟩ := cb8 Bw
    go_wp2_with fail
    clear Brrc0 Brrc1 Brrc2 Brrc3 Brrc4 Brrc5 Brrc6 Brrc7 Bpc0 Bwc0 Bwc1 Bwc2 Bwc3 Bwc4 Bwc5 Bwc6 Bwc7 Brrl Bpl Bwl
    refine (toRoom_any rr (Srr.below (by repeat (first | exact bR | refine bO ?_ | refine bA ?_ | refine bS ?_ | refine bD ?_ | refine bN ?_))) hsrr).mono ?_
    rintro e W2 ⟨aXxrri, dxrr1, axrrn, dxrr2, axrrl, dxrr3, rfl, Xxrr, hb⟩
    obtain ⟨loXxrri, Xxrri, Xxrrn, Xxrrl, apXxrrnXxrrl⟩ := Xxrr
    have nsXwiXxrri : ∀ k, aXwi = some ⟨k, 0, none⟩ → k ≠ aXxrri := fun k hk => by have h1 := (Xwi.ad k hk).2; have h2 := loXxrri; (try simp [ov_size] at h1 h2); omega
    have apXwnXxrrn := apart_new Xwn Xxrrn (by first | exact Nat.le_refl _ | (simp [ov_size]) | (simp [ov_size]; omega))
    have apXwlXxrrn := apart_new Xwl Xxrrn (by first | exact Nat.le_refl _ | (simp [ov_size]) | (simp [ov_size]; omega))
    have apXwnXxrrl := apart_new Xwn Xxrrl (by first | exact Nat.le_refl _ | (simp [ov_size]) | (simp [ov_size]; omega))
    have apXwlXxrrl := apart_new Xwl Xxrrl (by first | exact Nat.le_refl _ | (simp [ov_size]) | (simp [ov_size]; omega))
    replace loXxrri : V.heap.size ≤ aXxrri := by have := T.size; (try simp [ov_size] at loXxrri); omega
    replace Xxrrn := Xxrrn.weak (B' := V.heap.size) (by have := T.size; (try simp [ov_size]); omega)
    replace Xxrrl := Xxrrl.weak (B' := V.heap.size) (by have := T.size; (try simp [ov_size]); omega)
    have K : Below W1.heap.size W1 W2 := Below.trans (by repeat (first | exact bR | refine bO ?_ | refine bA ?_ | refine bS ?_ | refine bD ?_ | refine bN ?_)) (hb.mono (by first | exact Nat.le_refl _ | simp [ov_size]))
    clear hb
    replace T := T.trans (K.mono T.size)
    replace Brr := box_below Brr K
    replace Bp := box_below Bp K
    replace Bw := box_below Bw K
    replace Xwi := Xwi.below K
    replace Xwn := Xwn.below K
    replace Xwl := Xwl.below K
    clear K Srr Sp
    have Srr := Rrr.below (TV.trans (T.mono s0))
    have Sp := Rp.below (TV.trans (T.mono s0))
    obtain ⟨Brrc0, Brrc1, Brrc2, Brrc3, Brrc4, Brrc5, Brrc6, Brrc7, Brrl⟩ := cb8 Brr
    obtain ⟨Bpc0, Bpl⟩ := cb1 Bp
    obtain ⟨Bwc0, Bwc1, Bwc2, Bwc3, Bwc4, Bwc5, Bwc6, Bwc7, Bwl⟩ := cb8 Bw
    go_wp2_with fail
    clear Brrc0 Brrc1 Brrc2 Brrc3 Brrc4 Brrc5 Brrc6 Brrc7 Bpc0 Bwc0 Bwc1 Bwc2 Bwc3 Bwc4 Bwc5 Bwc6 Bwc7 Brrl Bpl Bwl
    obtain ⟨bxrr, hbx⟩ : ∃ b, b = W2.heap.size := ⟨_, rfl⟩
    rw [← hbx]
    obtain ⟨W3, hW⟩ : ∃ W, W = W2.alloc (.cells #[.slice (some ⟨aXxrri, 0, none⟩) rr.m.length dxrr1, .int .i64 rr.q, .int .i64 rr.bx, .int .i64 rr.by_, .int .i64 rr.lo, .int .i64 rr.hi, .slice axrrn rr.ns.length dxrr2, .slice axrrl rr.ls.length dxrr3] 36) := ⟨_, rfl⟩
    rw [← hW]
    have K : Below W2.heap.size W2 W3 := by rw [hW]; exact (by repeat (first | exact bR | refine bO ?_ | refine bA ?_ | refine bS ?_ | refine bD ?_ | refine bN ?_))
    have Bxrr := Lib.hid (show W3.heap[bxrr]? = some (.cells #[.slice (some ⟨aXxrri, 0, none⟩) rr.m.length dxrr1, .int .i64 rr.q, .int .i64 rr.bx, .int .i64 rr.by_, .int .i64 rr.lo, .int .i64 rr.hi, .slice axrrn rr.ns.length dxrr2, .slice axrrl rr.ls.length dxrr3] 36 (0, 0)) by rw [hW, hbx]; exact heap_alloc_new _ _)
    clear hW hbx
    replace T := T.trans (K.mono T.size)
    replace Brr := box_below Brr K
    replace Bp := box_below Bp K
    replace Bw := box_below Bw K
    replace Xwi := Xwi.below K
    replace Xwn := Xwn.below K
    replace Xwl := Xwl.below K
    replace Xxrri := Xxrri.below K
    replace Xxrrn := Xxrrn.below K
    replace Xxrrl := Xxrrl.below K
    clear K Srr Sp
    have Srr := Rrr.below (TV.trans (T.mono s0))
    have Sp := Rp.below (TV.trans (T.mono s0))
    refine (toRegion_any (Sp.below (by repeat (first | exact bR | refine bO ?_ | refine bA ?_ | refine bS ?_ | refine bD ?_ | refine bN ?_))) (by omega)).mono ?_
    rintro e W4 ⟨axp, dxp, rfl, Xxp, hb⟩
    have apXwnXxp := apart_new Xwn Xxp (by first | exact Nat.le_refl _ | (simp [ov_size]) | (simp [ov_size]; omega))
    have apXwlXxp := apart_new Xwl Xxp (by first | exact Nat.le_refl _ | (simp [ov_size]) | (simp [ov_size]; omega))
    have apXxrrnXxp := apart_new Xxrrn Xxp (by first | exact Nat.le_refl _ | (simp [ov_size]) | (simp [ov_size]; omega))
    have apXxrrlXxp := apart_new Xxrrl Xxp (by first | exact Nat.le_refl _ | (simp [ov_size]) | (simp [ov_size]; omega))
    replace Xxp := Xxp.weak (B' := V.heap.size) (by have := T.size; (try simp [ov_size]); omega)
    have K : Below W3.heap.size W3 W4 := Below.trans (by repeat (first | exact bR | refine bO ?_ | refine bA ?_ | refine bS ?_ | refine bD ?_ | refine bN ?_)) (hb.mono (by first | exact Nat.le_refl _ | simp [ov_size]))
    clear hb
    replace T := T.trans (K.mono T.size)
    replace Brr := box_below Brr K
    replace Bp := box_below Bp K
    replace Bw := box_below Bw K
    replace Bxrr := box_below Bxrr K
    replace Xwi := Xwi.below K
    replace Xwn := Xwn.below K
    replace Xwl := Xwl.below K
    replace Xxrri := Xxrri.below K
    replace Xxrrn := Xxrrn.below K
    replace Xxrrl := Xxrrl.below K
    clear K Srr Sp
    have Srr := Rrr.below (TV.trans (T.mono s0))
    have Sp := Rp.below (TV.trans (T.mono s0))
    obtain ⟨Brrc0, Brrc1, Brrc2, Brrc3, Brrc4, Brrc5, Brrc6, Brrc7, Brrl⟩ := cb8 Brr
    obtain ⟨Bpc0, Bpl⟩ := cb1 Bp
    obtain ⟨Bwc0, Bwc1, Bwc2, Bwc3, Bwc4, Bwc5, Bwc6, Bwc7, Bwl⟩ := cb8 Bw
    obtain ⟨Bxrrc0, Bxrrc1, Bxrrc2, Bxrrc3, Bxrrc4, Bxrrc5, Bxrrc6, Bxrrc7, Bxrrl⟩ := cb8 Bxrr
    go_wp2_with fail
    clear Brrc0 Brrc1 Brrc2 Brrc3 Brrc4 Brrc5 Brrc6 Brrc7 Bpc0 Bwc0 Bwc1 Bwc2 Bwc3 Bwc4 Bwc5 Bwc6 Bwc7 Bxrrc0 Bxrrc1 Bxrrc2 Bxrrc3 Bxrrc4 Bxrrc5 Bxrrc6 Bxrrc7 Brrl Bpl Bwl Bxrrl
    obtain ⟨bxp, hbx⟩ : ∃ b, b = W4.heap.size := ⟨_, rfl⟩
    rw [← hbx]
    obtain ⟨W5, hW⟩ : ∃ W, W = W4.alloc (.cells #[.slice axp p.length dxp] 34) := ⟨_, rfl⟩
    rw [← hW]
    have K : Below W4.heap.size W4 W5 := by rw [hW]; exact (by repeat (first | exact bR | refine bO ?_ | refine bA ?_ | refine bS ?_ | refine bD ?_ | refine bN ?_))
    have Bxp := Lib.hid (show W5.heap[bxp]? = some (.cells #[.slice axp p.length dxp] 34 (0, 0)) by rw [hW, hbx]; exact heap_alloc_new _ _)
    clear hW hbx
    replace T := T.trans (K.mono T.size)
    replace Brr := box_below Brr K
    replace Bp := box_below Bp K
    replace Bw := box_below Bw K
    replace Bxrr := box_below Bxrr K
    replace Xwi := Xwi.below K
    replace Xwn := Xwn.below K
    replace Xwl := Xwl.below K
    replace Xxrri := Xxrri.below K
    replace Xxrrn := Xxrrn.below K
    replace Xxrrl := Xxrrl.below K
    replace Xxp := Xxp.below K
    clear K Srr Sp
    have Srr := Rrr.below (TV.trans (T.mono s0))
    have Sp := Rp.below (TV.trans (T.mono s0))
    refine (impl_WithNoise_eq (RM.below ⟨Xxrri.ri, Xxrrn.r3, Xxrrl.r3⟩ (by repeat (first | exact bR | refine bO ?_ | refine bA ?_ | refine bS ?_ | refine bD ?_ | refine bN ?_))) hsrr ((Xxp.below (by repeat (first | exact bR | refine bO ?_ | refine bA ?_ | refine bS ?_ | refine bD ?_ | refine bN ?_))).r3) (by omega) HR).mono ?_
    rintro e W6 ⟨aXgi, dg1, agn, dg2, agl, dg3, rfl, Xg, hb⟩
    obtain ⟨Xgi, Xgn, Xgl, apXgnXgl⟩ := Xg
    have apXwiXgi := apart_newN Xwi Xgi (by first | exact Nat.le_refl _ | (simp [ov_size]) | (simp [ov_size]; omega))
    have nsXgiXxrri : ∀ k, aXgi = some ⟨k, 0, none⟩ → k ≠ aXxrri := fun k hk => by have h1 := (Xgi.ad k hk).1; have h2 := Xxrri.lt; (try simp [ov_size] at h1 h2); omega
    have apXwnXgn := apart_new Xwn Xgn (by first | exact Nat.le_refl _ | (simp [ov_size]) | (simp [ov_size]; omega))
    have apXwlXgn := apart_new Xwl Xgn (by first | exact Nat.le_refl _ | (simp [ov_size]) | (simp [ov_size]; omega))
    have apXxrrnXgn := apart_new Xxrrn Xgn (by first | exact Nat.le_refl _ | (simp [ov_size]) | (simp [ov_size]; omega))
    have apXxrrlXgn := apart_new Xxrrl Xgn (by first | exact Nat.le_refl _ | (simp [ov_size]) | (simp [ov_size]; omega))
    have apXxpXgn := apart_new Xxp Xgn (by first | exact Nat.le_refl _ | (simp [ov_size]) | (simp [ov_size]; omega))
    have apXwnXgl := apart_new Xwn Xgl (by first | exact Nat.le_refl _ | (simp [ov_size]) | (simp [ov_size]; omega))
    have apXwlXgl := apart_new Xwl Xgl (by first | exact Nat.le_refl _ | (simp [ov_size]) | (simp [ov_size]; omega))
    have apXxrrnXgl := apart_new Xxrrn Xgl (by first | exact Nat.le_refl _ | (simp [ov_size]) | (simp [ov_size]; omega))
    have apXxrrlXgl := apart_new Xxrrl Xgl (by first | exact Nat.le_refl _ | (simp [ov_size]) | (simp [ov_size]; omega))
    have apXxpXgl := apart_new Xxp Xgl (by first | exact Nat.le_refl _ | (simp [ov_size]) | (simp [ov_size]; omega))
    replace Xgi := Xgi.weak (B' := V.heap.size) (by have := T.size; (try simp [ov_size]); omega)
    replace Xgn := Xgn.weak (B' := V.heap.size) (by have := T.size; (try simp [ov_size]); omega)
    replace Xgl := Xgl.weak (B' := V.heap.size) (by have := T.size; (try simp [ov_size]); omega)
    have K : Below W5.heap.size W5 W6 := Below.trans (by repeat (first | exact bR | refine bO ?_ | refine bA ?_ | refine bS ?_ | refine bD ?_ | refine bN ?_)) (hb.mono (by first | exact Nat.le_refl _ | simp [ov_size]))
    clear hb
    replace T := T.trans (K.mono T.size)
    replace Brr := box_below Brr K
    replace Bp := box_below Bp K
    replace Bw := box_below Bw K
    replace Bxrr := box_below Bxrr K
    replace Bxp := box_below Bxp K
    replace Xwi := Xwi.below K
    replace Xwn := Xwn.below K
    replace Xwl := Xwl.below K
    replace Xxrri := Xxrri.below K
    replace Xxrrn := Xxrrn.below K
    replace Xxrrl := Xxrrl.below K
    replace Xxp := Xxp.below K
    clear K Srr Sp
    have Srr := Rrr.below (TV.trans (T.mono s0))
    have Sp := Rp.below (TV.trans (T.mono s0))
    obtain ⟨Brrc0, Brrc1, Brrc2, Brrc3, Brrc4, Brrc5, Brrc6, Brrc7, Brrl⟩ := cb8 Brr
    obtain ⟨Bpc0, Bpl⟩ := cb1 Bp
    obtain ⟨Bwc0, Bwc1, Bwc2, Bwc3, Bwc4, Bwc5, Bwc6, Bwc7, Bwl⟩ := cb8 Bw
    obtain ⟨Bxrrc0, Bxrrc1, Bxrrc2, Bxrrc3, Bxrrc4, Bxrrc5, Bxrrc6, Bxrrc7, Bxrrl⟩ := cb8 Bxrr
    obtain ⟨Bxpc0, Bxpl⟩ := cb1 Bxp
    go_wp2_with fail
    clear Brrc0 Brrc1 Brrc2 Brrc3 Brrc4 Brrc5 Brrc6 Brrc7 Bpc0 Bwc0 Bwc1 Bwc2 Bwc3 Bwc4 Bwc5 Bwc6 Bwc7 Bxrrc0 Bxrrc1 Bxrrc2 Bxrrc3 Bxrrc4 Bxrrc5 Bxrrc6 Bxrrc7 Bxpc0 Brrl Bpl Bwl Bxrrl Bxpl
    obtain ⟨bg, hbx⟩ : ∃ b, b = W6.heap.size := ⟨_, rfl⟩
    rw [← hbx]
    obtain ⟨W7, hW⟩ : ∃ W, W = W6.alloc (.cells #[.slice aXgi out.m.length dg1, .int .i64 out.q, .int .i64 out.bx, .int .i64 out.by_, .int .i64 out.lo, .int .i64 out.hi, .slice agn out.ns.length dg2, .slice agl out.ls.length dg3] 36) := ⟨_, rfl⟩
    rw [← hW]
    have K : Below W6.heap.size W6 W7 := by rw [hW]; exact (by repeat (first | exact bR | refine bO ?_ | refine bA ?_ | refine bS ?_ | refine bD ?_ | refine bN ?_))
    have Bg := Lib.hid (show W7.heap[bg]? = some (.cells #[.slice aXgi out.m.length dg1, .int .i64 out.q, .int .i64 out.bx, .int .i64 out.by_, .int .i64 out.lo, .int .i64 out.hi, .slice agn out.ns.length dg2, .slice agl out.ls.length dg3] 36 (0, 0)) by rw [hW, hbx]; exact heap_alloc_new _ _)
    clear hW hbx
    replace T := T.trans (K.mono T.size)
    replace Brr := box_below Brr K
    replace Bp := box_below Bp K
    replace Bw := box_below Bw K
    replace Bxrr := box_below Bxrr K
    replace Bxp := box_below Bxp K
    replace Xwi := Xwi.below K
    replace Xwn := Xwn.below K
    replace Xwl := Xwl.below K
    replace Xxrri := Xxrri.below K
    replace Xxrrn := Xxrrn.below K
    replace Xxrrl := Xxrrl.below K
    replace Xxp := Xxp.below K
    replace Xgi := Xgi.below K
    replace Xgn := Xgn.below K
    replace Xgl := Xgl.below K
    clear K Srr Sp
    have Srr := Rrr.below (TV.trans (T.mono s0))
    have Sp := Rp.below (TV.trans (T.mono s0))
    refine (calls_ov (eqRoom_same (by exact RM.below ⟨Xgi.ri, Xgn.r3, Xgl.r3⟩ (by repeat (first | exact bR | refine bO ?_ | refine bA ?_ | refine bS ?_ | refine bD ?_ | refine bN ?_))) (by exact RM.below ⟨Xwi.ri, Xwn.r3, Xwl.r3⟩ (by repeat (first | exact bR | refine bO ?_ | refine bA ?_ | refine bS ?_ | refine bD ?_ | refine bN ?_))) ho)).mono ?_
    rintro e w' ⟨rfl, x, rfl⟩
    obtain ⟨W8, hW⟩ : ∃ W8, W8 = ov W7 x := ⟨_, rfl⟩
    rw [← hW]
    have K : Below W7.heap.size W7 W8 := by rw [hW]; exact (by repeat (first | exact bR | refine bO ?_ | refine bA ?_ | refine bS ?_ | refine bD ?_ | refine bN ?_))
    clear hW
    replace T := T.trans (K.mono T.size)
    replace Brr := box_below Brr K
    replace Bp := box_below Bp K
    replace Bw := box_below Bw K
    replace Bxrr := box_below Bxrr K
    replace Bxp := box_below Bxp K
    replace Bg := box_below Bg K
    replace Xwi := Xwi.below K
    replace Xwn := Xwn.below K
    replace Xwl := Xwl.below K
    replace Xxrri := Xxrri.below K
    replace Xxrrn := Xxrrn.below K
    replace Xxrrl := Xxrrl.below K
    replace Xxp := Xxp.below K
    replace Xgi := Xgi.below K
    replace Xgn := Xgn.below K
    replace Xgl := Xgl.below K
    clear K Srr Sp
    have Srr := Rrr.below (TV.trans (T.mono s0))
    have Sp := Rp.below (TV.trans (T.mono s0))
    obtain ⟨Brrc0, Brrc1, Brrc2, Brrc3, Brrc4, Brrc5, Brrc6, Brrc7, Brrl⟩ := cb8 Brr
    obtain ⟨Bpc0, Bpl⟩ := cb1 Bp
    obtain ⟨Bwc0, Bwc1, Bwc2, Bwc3, Bwc4, Bwc5, Bwc6, Bwc7, Bwl⟩ := cb8 Bw
    obtain ⟨Bxrrc0, Bxrrc1, Bxrrc2, Bxrrc3, Bxrrc4, Bxrrc5, Bxrrc6, Bxrrc7, Bxrrl⟩ := cb8 Bxrr
    obtain ⟨Bxpc0, Bxpl⟩ := cb1 Bxp
    obtain ⟨Bgc0, Bgc1, Bgc2, Bgc3, Bgc4, Bgc5, Bgc6, Bgc7, Bgl⟩ := cb8 Bg
    go_wp2_with fail
    clear Brrc0 Brrc1 Brrc2 Brrc3 Brrc4 Brrc5 Brrc6 Brrc7 Bpc0 Bwc0 Bwc1 Bwc2 Bwc3 Bwc4 Bwc5 Bwc6 Bwc7 Bxrrc0 Bxrrc1 Bxrrc2 Bxrrc3 Bxrrc4 Bxrrc5 Bxrrc6 Bxrrc7 Bxpc0 Bgc0 Bgc1 Bgc2 Bgc3 Bgc4 Bgc5 Bgc6 Bgc7 Brrl Bpl Bwl Bxrrl Bxpl Bgl
    obtain ⟨Brrc0, Brrc1, Brrc2, Brrc3, Brrc4, Brrc5, Brrc6, Brrc7, Brrl⟩ := cb8 Brr
    obtain ⟨Bpc0, Bpl⟩ := cb1 Bp
    obtain ⟨Bwc0, Bwc1, Bwc2, Bwc3, Bwc4, Bwc5, Bwc6, Bwc7, Bwl⟩ := cb8 Bw
    obtain ⟨Bxrrc0, Bxrrc1, Bxrrc2, Bxrrc3, Bxrrc4, Bxrrc5, Bxrrc6, Bxrrc7, Bxrrl⟩ := cb8 Bxrr
    obtain ⟨Bxpc0, Bxpl⟩ := cb1 Bxp
    obtain ⟨Bgc0, Bgc1, Bgc2, Bgc3, Bgc4, Bgc5, Bgc6, Bgc7, Bgl⟩ := cb8 Bg
    refine wp_region_rel [.pur [] ?d2c0, .pur [] ?d2c1, .rel [] [2] false (IsOw (GRoom rr)), .pur [2] ?d2c3, .pur [] ?d2c4] _ rfl rfl (by kernel_rfl) (by kernel_rfl) ?hstd2 (fun vs => ?walkd2)
    case' walkd2 =>
      (refine wpRel_pur rfl rfl (fun x => by ((go_wp2); refine relEnd_pur rfl ?_ (by repeat (first | exact bR | refine bO ?_ | refine bA ?_ | refine bS ?_ | refine bD ?_ | refine bN ?_)); simp only [Act.put, List.setIfInBounds_toArray, List.set_cons_succ, List.set_cons_zero]; rfl)) ?_; simp only [Act.put, List.setIfInBounds_toArray, List.set_cons_succ, List.set_cons_zero])
      (refine wpRel_pur rfl rfl (fun x => by ((go_wp2); refine relEnd_pur rfl ?_ (by repeat (first | exact bR | refine bO ?_ | refine bA ?_ | refine bS ?_ | refine bD ?_ | refine bN ?_)); simp only [Act.put, List.setIfInBounds_toArray, List.set_cons_succ, List.set_cons_zero]; rfl)) ?_; simp only [Act.put, List.setIfInBounds_toArray, List.set_cons_succ, List.set_cons_zero])
      refine wpRel_own rfl rfl rfl (fun x hh => ?_) ?_
      · go_wp2_with fail
        refine (toRoom_any rr (Srr.below (by repeat (first | exact bR | refine bO ?_ | refine bA ?_ | refine bS ?_ | refine bD ?_ | refine bN ?_))) hsrr).mono ?_
        rintro e w7 ⟨a71, d71, a72, d72, a73, d73, rfl, Q7, hb7⟩
        go_wp2
        refine relEnd_ow rfl rfl ?_ hb7 ⟨a71, d71, a72, d72, a73, d73, rfl, Q7.weak (by rw [ov_size]; omega)⟩
        (simp only [Act.put, List.setIfInBounds_toArray, List.set_cons_succ, List.set_cons_zero] <;> rfl)
      simp only [Act.put, List.setIfInBounds_toArray, List.set_cons_succ, List.set_cons_zero]
      (refine wpRel_purn rfl rfl (fun x hh => by ((obtain ⟨ao21, do21, ao22, do22, ao23, do23, f2, Qo2⟩ := isOw_at (hh 2 (by simp)) rfl; simp only [f2]); (go_wp2_with (first | (go_at_call 18; refine (calls_ov (eqRoom_same (by exact RM.below ⟨Xxrri.ri, Xxrrn.r3, Xxrrl.r3⟩ (by repeat (first | exact bR | refine bO ?_ | refine bA ?_ | refine bS ?_ | refine bD ?_ | refine bN ?_))) (by first | exact (Qo2.below (by repeat (first | exact bR | refine bO ?_ | refine bA ?_ | refine bS ?_ | refine bD ?_ | refine bN ?_))).rm | exact Qo2.rm) hsrr)).mono ?_; rintro e w' ⟨rfl, x, rfl⟩))); refine relEnd_pur rfl ?_ (by repeat (first | exact bR | refine bO ?_ | refine bA ?_ | refine bS ?_ | refine bD ?_ | refine bN ?_)); simp only [Act.put, List.setIfInBounds_toArray, List.set_cons_succ, List.set_cons_zero]; rfl)) ?_; simp only [Act.put, List.setIfInBounds_toArray, List.set_cons_succ, List.set_cons_zero])
      (refine wpRel_pur rfl rfl (fun x => by ((go_wp2); refine relEnd_pur rfl ?_ (by repeat (first | exact bR | refine bO ?_ | refine bA ?_ | refine bS ?_ | refine bD ?_ | refine bN ?_)); simp only [Act.put, List.setIfInBounds_toArray, List.set_cons_succ, List.set_cons_zero]; rfl)) ?_; simp only [Act.put, List.setIfInBounds_toArray, List.set_cons_succ, List.set_cons_zero])
      refine wpRelE_nilB0 (fun W9 K hh => ?_)
      clear hh
      clear Brrc0 Brrc1 Brrc2 Brrc3 Brrc4 Brrc5 Brrc6 Brrc7 Bpc0 Bwc0 Bwc1 Bwc2 Bwc3 Bwc4 Bwc5 Bwc6 Bwc7 Bxrrc0 Bxrrc1 Bxrrc2 Bxrrc3 Bxrrc4 Bxrrc5 Bxrrc6 Bxrrc7 Bxpc0 Bgc0 Bgc1 Bgc2 Bgc3 Bgc4 Bgc5 Bgc6 Bgc7 Brrl Bpl Bwl Bxrrl Bxpl Bgl
      replace T := T.trans (K.mono T.size)
      replace Brr := box_below Brr K
      replace Bp := box_below Bp K
      replace Bw := box_below Bw K
      replace Bxrr := box_below Bxrr K
      replace Bxp := box_below Bxp K
      replace Bg := box_below Bg K
      replace Xwi := Xwi.below K
      replace Xwn := Xwn.below K
      replace Xwl := Xwl.below K
      replace Xxrri := Xxrri.below K
      replace Xxrrn := Xxrrn.below K
      replace Xxrrl := Xxrrl.below K
      replace Xxp := Xxp.below K
      replace Xgi := Xgi.below K
      replace Xgn := Xgn.below K
      replace Xgl := Xgl.below K
      clear K Srr Sp
      have Srr := Rrr.below (TV.trans (T.mono s0))
      have Sp := Rp.below (TV.trans (T.mono s0))
      obtain ⟨Brrc0, Brrc1, Brrc2, Brrc3, Brrc4, Brrc5, Brrc6, Brrc7, Brrl⟩ := cb8 Brr
      obtain ⟨Bpc0, Bpl⟩ := cb1 Bp
      obtain ⟨Bwc0, Bwc1, Bwc2, Bwc3, Bwc4, Bwc5, Bwc6, Bwc7, Bwl⟩ := cb8 Bw
      obtain ⟨Bxrrc0, Bxrrc1, Bxrrc2, Bxrrc3, Bxrrc4, Bxrrc5, Bxrrc6, Bxrrc7, Bxrrl⟩ := cb8 Bxrr
      obtain ⟨Bxpc0, Bxpl⟩ := cb1 Bxp
      obtain ⟨Bgc0, Bgc1, Bgc2, Bgc3, Bgc4, Bgc5, Bgc6, Bgc7, Bgl⟩ := cb8 Bg
      go_wp2_with fail
      clear Brrc0 Brrc1 Brrc2 Brrc3 Brrc4 Brrc5 Brrc6 Brrc7 Bpc0 Bwc0 Bwc1 Bwc2 Bwc3 Bwc4 Bwc5 Bwc6 Bwc7 Bxrrc0 Bxrrc1 Bxrrc2 Bxrrc3 Bxrrc4 Bxrrc5 Bxrrc6 Bxrrc7 Bxpc0 Bgc0 Bgc1 Bgc2 Bgc3 Bgc4 Bgc5 Bgc6 Bgc7 Brrl Bpl Bwl Bxrrl Bxpl Bgl
      obtain ⟨Brrc0, Brrc1, Brrc2, Brrc3, Brrc4, Brrc5, Brrc6, Brrc7, Brrl⟩ := cb8 Brr
      obtain ⟨Bpc0, Bpl⟩ := cb1 Bp
      obtain ⟨Bwc0, Bwc1, Bwc2, Bwc3, Bwc4, Bwc5, Bwc6, Bwc7, Bwl⟩ := cb8 Bw
      obtain ⟨Bxrrc0, Bxrrc1, Bxrrc2, Bxrrc3, Bxrrc4, Bxrrc5, Bxrrc6, Bxrrc7, Bxrrl⟩ := cb8 Bxrr
      obtain ⟨Bxpc0, Bxpl⟩ := cb1 Bxp
      obtain ⟨Bgc0, Bgc1, Bgc2, Bgc3, Bgc4, Bgc5, Bgc6, Bgc7, Bgl⟩ := cb8 Bg
      refine wp_region_rel [.pur [] ?d3c0, .pur [] ?d3c1, .rel [] [2] false (IsOw (GReg p)), .pur [2] ?d3c3, .pur [] ?d3c4] _ rfl rfl (by kernel_rfl) (by kernel_rfl) ?hstd3 (fun vs => ?walkd3)
      case' walkd3 =>
        (refine wpRel_pur rfl rfl (fun x => by ((go_wp2); refine relEnd_pur rfl ?_ (by repeat (first | exact bR | refine bO ?_ | refine bA ?_ | refine bS ?_ | refine bD ?_ | refine bN ?_)); simp only [Act.put, List.setIfInBounds_toArray, List.set_cons_succ, List.set_cons_zero]; rfl)) ?_; simp only [Act.put, List.setIfInBounds_toArray, List.set_cons_succ, List.set_cons_zero])
        (refine wpRel_pur rfl rfl (fun x => by ((go_wp2); refine relEnd_pur rfl ?_ (by repeat (first | exact bR | refine bO ?_ | refine bA ?_ | refine bS ?_ | refine bD ?_ | refine bN ?_)); simp only [Act.put, List.setIfInBounds_toArray, List.set_cons_succ, List.set_cons_zero]; rfl)) ?_; simp only [Act.put, List.setIfInBounds_toArray, List.set_cons_succ, List.set_cons_zero])
        refine wpRel_own rfl rfl rfl (fun x hh => ?_) ?_
        · go_wp2_with fail
          refine (toRegion_any (Sp.below (by repeat (first | exact bR | refine bO ?_ | refine bA ?_ | refine bS ?_ | refine bD ?_ | refine bN ?_))) (by omega)).mono ?_
          rintro e w7 ⟨a7, d7, rfl, Q7, hb7⟩
          go_wp2
          refine relEnd_ow rfl rfl ?_ hb7 ⟨a7, d7, rfl, Q7.weak (by rw [ov_size]; omega)⟩
          (simp only [Act.put, List.setIfInBounds_toArray, List.set_cons_succ, List.set_cons_zero] <;> rfl)
        simp only [Act.put, List.setIfInBounds_toArray, List.set_cons_succ, List.set_cons_zero]
        (refine wpRel_purn rfl rfl (fun x hh => by ((obtain ⟨ao2, do2, f2, Qo2⟩ := isOw_at (hh 2 (by simp)) rfl; simp only [f2]); (go_wp2_with (first | (go_at_call 33; refine (calls_ov (eqRegion_same (by exact (Xxp.below (by repeat (first | exact bR | refine bO ?_ | refine bA ?_ | refine bS ?_ | refine bD ?_ | refine bN ?_))).r3) (by first | exact ((Qo2.below (by repeat (first | exact bR | refine bO ?_ | refine bA ?_ | refine bS ?_ | refine bD ?_ | refine bN ?_))).r3) | exact Qo2.r3) (by omega))).mono ?_; rintro e w' ⟨rfl, x, rfl⟩))); refine relEnd_pur rfl ?_ (by repeat (first | exact bR | refine bO ?_ | refine bA ?_ | refine bS ?_ | refine bD ?_ | refine bN ?_)); simp only [Act.put, List.setIfInBounds_toArray, List.set_cons_succ, List.set_cons_zero]; rfl)) ?_; simp only [Act.put, List.setIfInBounds_toArray, List.set_cons_succ, List.set_cons_zero])
        (refine wpRel_pur rfl rfl (fun x => by ((go_wp2); refine relEnd_pur rfl ?_ (by repeat (first | exact bR | refine bO ?_ | refine bA ?_ | refine bS ?_ | refine bD ?_ | refine bN ?_)); simp only [Act.put, List.setIfInBounds_toArray, List.set_cons_succ, List.set_cons_zero]; rfl)) ?_; simp only [Act.put, List.setIfInBounds_toArray, List.set_cons_succ, List.set_cons_zero])
        refine wpRelE_nilB0 (fun W10 K hh => ?_)
        clear hh
        clear Brrc0 Brrc1 Brrc2 Brrc3 Brrc4 Brrc5 Brrc6 Brrc7 Bpc0 Bwc0 Bwc1 Bwc2 Bwc3 Bwc4 Bwc5 Bwc6 Bwc7 Bxrrc0 Bxrrc1 Bxrrc2 Bxrrc3 Bxrrc4 Bxrrc5 Bxrrc6 Bxrrc7 Bxpc0 Bgc0 Bgc1 Bgc2 Bgc3 Bgc4 Bgc5 Bgc6 Bgc7 Brrl Bpl Bwl Bxrrl Bxpl Bgl
        replace T := T.trans (K.mono T.size)
        replace Brr := box_below Brr K
        replace Bp := box_below Bp K
        replace Bw := box_below Bw K
        replace Bxrr := box_below Bxrr K
        replace Bxp := box_below Bxp K
        replace Bg := box_below Bg K
        replace Xwi := Xwi.below K
        replace Xwn := Xwn.below K
        replace Xwl := Xwl.below K
        replace Xxrri := Xxrri.below K
        replace Xxrrn := Xxrrn.below K
        replace Xxrrl := Xxrrl.below K
        replace Xxp := Xxp.below K
        replace Xgi := Xgi.below K
        replace Xgn := Xgn.below K
        replace Xgl := Xgl.below K
        clear K Srr Sp
        have Srr := Rrr.below (TV.trans (T.mono s0))
        have Sp := Rp.below (TV.trans (T.mono s0))
        obtain ⟨Brrc0, Brrc1, Brrc2, Brrc3, Brrc4, Brrc5, Brrc6, Brrc7, Brrl⟩ := cb8 Brr
        obtain ⟨Bpc0, Bpl⟩ := cb1 Bp
        obtain ⟨Bwc0, Bwc1, Bwc2, Bwc3, Bwc4, Bwc5, Bwc6, Bwc7, Bwl⟩ := cb8 Bw
        obtain ⟨Bxrrc0, Bxrrc1, Bxrrc2, Bxrrc3, Bxrrc4, Bxrrc5, Bxrrc6, Bxrrc7, Bxrrl⟩ := cb8 Bxrr
        obtain ⟨Bxpc0, Bxpl⟩ := cb1 Bxp
        obtain ⟨Bgc0, Bgc1, Bgc2, Bgc3, Bgc4, Bgc5, Bgc6, Bgc7, Bgl⟩ := cb8 Bg
        go_wp2_with fail
        clear Brrc0 Brrc1 Brrc2 Brrc3 Brrc4 Brrc5 Brrc6 Brrc7 Bpc0 Bwc0 Bwc1 Bwc2 Bwc3 Bwc4 Bwc5 Bwc6 Bwc7 Bxrrc0 Bxrrc1 Bxrrc2 Bxrrc3 Bxrrc4 Bxrrc5 Bxrrc6 Bxrrc7 Bxpc0 Bgc0 Bgc1 Bgc2 Bgc3 Bgc4 Bgc5 Bgc6 Bgc7 Brrl Bpl Bwl Bxrrl Bxpl Bgl
        refine (markRoom_any (r := rr) (Xxrri.below (by repeat (first | exact bR | refine bO ?_ | refine bA ?_ | refine bS ?_ | refine bD ?_ | refine bN ?_))) (Xxrrn.below (by repeat (first | exact bR | refine bO ?_ | refine bA ?_ | refine bS ?_ | refine bD ?_ | refine bN ?_))) (Xxrrl.below (by repeat (first | exact bR | refine bO ?_ | refine bA ?_ | refine bS ?_ | refine bD ?_ | refine bN ?_))) apXxrrnXxrrl hsrr ⟨by omega, by omega⟩).mono ?_
        rintro e W11 ⟨rfl, ⟨W12, W13, hg1, hg2, hg3⟩⟩
        have K : W10.grownBy W12 _ := grown_pre (by exact (by repeat (first | exact bR | refine bO ?_ | refine bA ?_ | refine bS ?_ | refine bD ?_ | refine bN ?_))) hg1
        clear hg1
        replace T := grown_below (v := .slice (some ⟨aXxrri, 0, none⟩) 0 0) T K (fun k hk => by have hk : some aXxrri = some k := hk; injection hk with hk; have := loXxrri; omega) (Nat.le_refl _)
        replace Brr := box_grown_i Brr K (Xxrri.ne Brr.out (by decide))
        replace Bp := box_grown_i Bp K (Xxrri.ne Bp.out (by decide))
        replace Bw := box_grown_i Bw K (Xxrri.ne Bw.out (by decide))
        replace Bxrr := box_grown_i Bxrr K (Xxrri.ne Bxrr.out (by decide))
        replace Bxp := box_grown_i Bxp K (Xxrri.ne Bxp.out (by decide))
        replace Bg := box_grown_i Bg K (Xxrri.ne Bg.out (by decide))
        replace Xwi := Xwi.grown K (fun k hk e => by injection e with e; exact nsXwiXxrri k hk e)
        replace Xwn := Xwn.grown_i K (Xxrri.apart Xwn (by decide))
        replace Xwl := Xwl.grown_i K (Xxrri.apart Xwl (by decide))
        replace Xxrrn := Xxrrn.grown_i K (Xxrri.apart Xxrrn (by decide))
        replace Xxrrl := Xxrrl.grown_i K (Xxrri.apart Xxrrl (by decide))
        replace Xxp := Xxp.grown_i K (Xxrri.apart Xxp (by decide))
        replace Xgi := Xgi.grown K (fun k hk e => by injection e with e; exact nsXgiXxrri k hk e)
        replace Xgn := Xgn.grown_i K (Xxrri.apart Xgn (by decide))
        replace Xgl := Xgl.grown_i K (Xxrri.apart Xgl (by decide))
        clear K Xxrri
        have K := hg2
        clear hg2
        replace T := grown_below T K (fun k hk => (Xxrrn.lt k hk).1) (Nat.le_refl _)
        replace Brr := box_grown Brr K (Xxrrn.ne_box Brr.out (by decide))
        replace Bp := box_grown Bp K (Xxrrn.ne_box Bp.out (by decide))
        replace Bw := box_grown Bw K (Xxrrn.ne_box Bw.out (by decide))
        replace Bxrr := box_grown Bxrr K (Xxrrn.ne_box Bxrr.out (by decide))
        replace Bxp := box_grown Bxp K (Xxrrn.ne_box Bxp.out (by decide))
        replace Bg := box_grown Bg K (Xxrrn.ne_box Bg.out (by decide))
        replace Xwi := Xwi.grown K (fun k hk => Xwi.ne_n Xxrrn (by decide) hk)
        replace Xwn := Xwn.grown Xxrrn K apXwnXxrrn.symm
        replace Xwl := Xwl.grown Xxrrn K apXwlXxrrn.symm
        replace Xxrrl := Xxrrl.grown Xxrrn K apXxrrnXxrrl
        replace Xxp := Xxp.grown Xxrrn K apXxrrnXxp
        replace Xgi := Xgi.grown K (fun k hk => Xgi.ne_n Xxrrn (by decide) hk)
        replace Xgn := Xgn.grown Xxrrn K apXxrrnXgn
        replace Xgl := Xgl.grown Xxrrn K apXxrrnXgl
        clear K Xxrrn
        have K := hg3
        clear hg3
        replace T := grown_below T K (fun k hk => (Xxrrl.lt k hk).1) (Nat.le_refl _)
        replace Brr := box_grown Brr K (Xxrrl.ne_box Brr.out (by decide))
        replace Bp := box_grown Bp K (Xxrrl.ne_box Bp.out (by decide))
        replace Bw := box_grown Bw K (Xxrrl.ne_box Bw.out (by decide))
        replace Bxrr := box_grown Bxrr K (Xxrrl.ne_box Bxrr.out (by decide))
        replace Bxp := box_grown Bxp K (Xxrrl.ne_box Bxp.out (by decide))
        replace Bg := box_grown Bg K (Xxrrl.ne_box Bg.out (by decide))
        replace Xwi := Xwi.grown K (fun k hk => Xwi.ne_n Xxrrl (by decide) hk)
        replace Xwn := Xwn.grown Xxrrl K apXwnXxrrl.symm
        replace Xwl := Xwl.grown Xxrrl K apXwlXxrrl.symm
        replace Xxp := Xxp.grown Xxrrl K apXxrrlXxp
        replace Xgi := Xgi.grown K (fun k hk => Xgi.ne_n Xxrrl (by decide) hk)
        replace Xgn := Xgn.grown Xxrrl K apXxrrlXgn
        replace Xgl := Xgl.grown Xxrrl K apXxrrlXgl
        clear K Xxrrl
        clear Srr Sp
        have Srr := Rrr.below (TV.trans (T.mono s0))
        have Sp := Rp.below (TV.trans (T.mono s0))
        clear Bxrr
        obtain ⟨Brrc0, Brrc1, Brrc2, Brrc3, Brrc4, Brrc5, Brrc6, Brrc7, Brrl⟩ := cb8 Brr
        obtain ⟨Bpc0, Bpl⟩ := cb1 Bp
        obtain ⟨Bwc0, Bwc1, Bwc2, Bwc3, Bwc4, Bwc5, Bwc6, Bwc7, Bwl⟩ := cb8 Bw
        obtain ⟨Bxpc0, Bxpl⟩ := cb1 Bxp
        obtain ⟨Bgc0, Bgc1, Bgc2, Bgc3, Bgc4, Bgc5, Bgc6, Bgc7, Bgl⟩ := cb8 Bg
        go_wp2_with fail
        clear Brrc0 Brrc1 Brrc2 Brrc3 Brrc4 Brrc5 Brrc6 Brrc7 Bpc0 Bwc0 Bwc1 Bwc2 Bwc3 Bwc4 Bwc5 Bwc6 Bwc7 Bxpc0 Bgc0 Bgc1 Bgc2 Bgc3 Bgc4 Bgc5 Bgc6 Bgc7 Brrl Bpl Bwl Bxpl Bgl
        refine (markRegion_any (Xxp.below (by repeat (first | exact bR | refine bO ?_ | refine bA ?_ | refine bS ?_ | refine bD ?_ | refine bN ?_))) (by omega) ⟨by omega, by omega⟩).mono ?_
        rintro e W14 ⟨rfl, Yxp, hg⟩
        have K : W11.grownBy W14 _ := grown_pre (by exact (by repeat (first | exact bR | refine bO ?_ | refine bA ?_ | refine bS ?_ | refine bD ?_ | refine bN ?_))) hg
        clear hg
        replace T := grown_below T K (fun k hk => (Xxp.lt k hk).1) (Nat.le_refl _)
        replace Brr := box_grown Brr K (Xxp.ne_box Brr.out (by decide))
        replace Bp := box_grown Bp K (Xxp.ne_box Bp.out (by decide))
        replace Bw := box_grown Bw K (Xxp.ne_box Bw.out (by decide))
        replace Bxp := box_grown Bxp K (Xxp.ne_box Bxp.out (by decide))
        replace Bg := box_grown Bg K (Xxp.ne_box Bg.out (by decide))
        replace Xwi := Xwi.grown K (fun k hk => Xwi.ne_n Xxp (by decide) hk)
        replace Xwn := Xwn.grown Xxp K apXwnXxp.symm
        replace Xwl := Xwl.grown Xxp K apXwlXxp.symm
        replace Xgi := Xgi.grown K (fun k hk => Xgi.ne_n Xxp (by decide) hk)
        replace Xgn := Xgn.grown Xxp K apXxpXgn
        replace Xgl := Xgl.grown Xxp K apXxpXgl
        clear K Srr Sp Xxp Yxp
        have Srr := Rrr.below (TV.trans (T.mono s0))
        have Sp := Rp.below (TV.trans (T.mono s0))
        clear Bxp
        obtain ⟨Brrc0, Brrc1, Brrc2, Brrc3, Brrc4, Brrc5, Brrc6, Brrc7, Brrl⟩ := cb8 Brr
        obtain ⟨Bpc0, Bpl⟩ := cb1 Bp
        obtain ⟨Bwc0, Bwc1, Bwc2, Bwc3, Bwc4, Bwc5, Bwc6, Bwc7, Bwl⟩ := cb8 Bw
        obtain ⟨Bgc0, Bgc1, Bgc2, Bgc3, Bgc4, Bgc5, Bgc6, Bgc7, Bgl⟩ := cb8 Bg
        go_wp2_with fail
        clear Brrc0 Brrc1 Brrc2 Brrc3 Brrc4 Brrc5 Brrc6 Brrc7 Bpc0 Bwc0 Bwc1 Bwc2 Bwc3 Bwc4 Bwc5 Bwc6 Bwc7 Bgc0 Bgc1 Bgc2 Bgc3 Bgc4 Bgc5 Bgc6 Bgc7 Brrl Bpl Bwl Bgl
        refine (calls_ov (eqRoom_same (by exact RM.below ⟨Xgi.ri, Xgn.r3, Xgl.r3⟩ (by repeat (first | exact bR | refine bO ?_ | refine bA ?_ | refine bS ?_ | refine bD ?_ | refine bN ?_))) (by exact RM.below ⟨Xwi.ri, Xwn.r3, Xwl.r3⟩ (by repeat (first | exact bR | refine bO ?_ | refine bA ?_ | refine bS ?_ | refine bD ?_ | refine bN ?_))) ho)).mono ?_
        rintro e w' ⟨rfl, x, rfl⟩
        obtain ⟨W15, hW⟩ : ∃ W15, W15 = ov W14 x := ⟨_, rfl⟩
        rw [← hW]
        have K : Below W14.heap.size W14 W15 := by rw [hW]; exact (by repeat (first | exact bR | refine bO ?_ | refine bA ?_ | refine bS ?_ | refine bD ?_ | refine bN ?_))
        clear hW
        replace T := T.trans (K.mono T.size)
        replace Brr := box_below Brr K
        replace Bp := box_below Bp K
        replace Bw := box_below Bw K
        replace Bg := box_below Bg K
        replace Xwi := Xwi.below K
        replace Xwn := Xwn.below K
        replace Xwl := Xwl.below K
        replace Xgi := Xgi.below K
        replace Xgn := Xgn.below K
        replace Xgl := Xgl.below K
        clear K Srr Sp
        have Srr := Rrr.below (TV.trans (T.mono s0))
        have Sp := Rp.below (TV.trans (T.mono s0))
        obtain ⟨Brrc0, Brrc1, Brrc2, Brrc3, Brrc4, Brrc5, Brrc6, Brrc7, Brrl⟩ := cb8 Brr
        obtain ⟨Bpc0, Bpl⟩ := cb1 Bp
        obtain ⟨Bwc0, Bwc1, Bwc2, Bwc3, Bwc4, Bwc5, Bwc6, Bwc7, Bwl⟩ := cb8 Bw
        obtain ⟨Bgc0, Bgc1, Bgc2, Bgc3, Bgc4, Bgc5, Bgc6, Bgc7, Bgl⟩ := cb8 Bg
        go_wp2_with fail
        clear Brrc0 Brrc1 Brrc2 Brrc3 Brrc4 Brrc5 Brrc6 Brrc7 Bpc0 Bwc0 Bwc1 Bwc2 Bwc3 Bwc4 Bwc5 Bwc6 Bwc7 Bgc0 Bgc1 Bgc2 Bgc3 Bgc4 Bgc5 Bgc6 Bgc7 Brrl Bpl Bwl Bgl
        refine (markRoom_own (r := out) (Xgi.below (by repeat (first | exact bR | refine bO ?_ | refine bA ?_ | refine bS ?_ | refine bD ?_ | refine bN ?_))) (Xgn.below (by repeat (first | exact bR | refine bO ?_ | refine bA ?_ | refine bS ?_ | refine bD ?_ | refine bN ?_))) (Xgl.below (by repeat (first | exact bR | refine bO ?_ | refine bA ?_ | refine bS ?_ | refine bD ?_ | refine bN ?_))) apXgnXgl ho ⟨by omega, by omega⟩).mono ?_
        rintro e W16 ⟨rfl, ⟨W17, W18, hg1, hg2, hg3⟩, Yi, Yn, Yl⟩
        have K : W15.grownBy W17 _ := grown_pre (by exact (by repeat (first | exact bR | refine bO ?_ | refine bA ?_ | refine bS ?_ | refine bD ?_ | refine bN ?_))) hg1
        clear hg1
        obtain ⟨qv, hqv⟩ : ∃ q : Int, 1 + (out.m.length : Int) + out.ns.length * 3 + out.ls.length * 3 = q := ⟨_, rfl⟩
        have zq : ¬ qv < 0 := by omega
        have zqn : (qv != qv) = false := by simp
        rw [hqv]
        replace Yi := Lib.hid Yi
        replace Yn := Lib.hid Yn
        replace Yl := Lib.hid Yl
        replace T := grown_below T K (fun k hk => (Xgi.lt k hk).1) (Nat.le_refl _)
        replace Brr := box_grown Brr K (Xgi.ne_box Brr.out (by decide))
        replace Bp := box_grown Bp K (Xgi.ne_box Bp.out (by decide))
        replace Bw := box_grown Bw K (Xgi.ne_box Bw.out (by decide))
        replace Bg := box_grown Bg K (Xgi.ne_box Bg.out (by decide))
        replace Xwi := Xwi.grown_n Xgi K apXwiXgi.symm
        replace Xwn := Xwn.grown_n Xgi K (by decide)
        replace Xwl := Xwl.grown_n Xgi K (by decide)
        replace Xgn := Xgn.grown_n Xgi K (by decide)
        replace Xgl := Xgl.grown_n Xgi K (by decide)
        clear K Xgi
        have K := hg2
        clear hg2
        replace T := grown_below T K (fun k hk => (Xgn.lt k hk).1) (Nat.le_refl _)
        replace Brr := box_grown Brr K (Xgn.ne_box Brr.out (by decide))
        replace Bp := box_grown Bp K (Xgn.ne_box Bp.out (by decide))
        replace Bw := box_grown Bw K (Xgn.ne_box Bw.out (by decide))
        replace Bg := box_grown Bg K (Xgn.ne_box Bg.out (by decide))
        replace Xwi := Xwi.grown K (fun k hk => Xwi.ne_n Xgn (by decide) hk)
        replace Xwn := Xwn.grown Xgn K apXwnXgn.symm
        replace Xwl := Xwl.grown Xgn K apXwlXgn.symm
        replace Xgl := Xgl.grown Xgn K apXgnXgl
        clear K Xgn
        have K := hg3
        clear hg3
        replace T := grown_below T K (fun k hk => (Xgl.lt k hk).1) (Nat.le_refl _)
        replace Brr := box_grown Brr K (Xgl.ne_box Brr.out (by decide))
        replace Bp := box_grown Bp K (Xgl.ne_box Bp.out (by decide))
        replace Bw := box_grown Bw K (Xgl.ne_box Bw.out (by decide))
        replace Bg := box_grown Bg K (Xgl.ne_box Bg.out (by decide))
        replace Xwi := Xwi.grown K (fun k hk => Xwi.ne_n Xgl (by decide) hk)
        replace Xwn := Xwn.grown Xgl K apXwnXgl.symm
        replace Xwl := Xwl.grown Xgl K apXwlXgl.symm
        clear K Xgl
        clear Srr Sp
        have Srr := Rrr.below (TV.trans (T.mono s0))
        have Sp := Rp.below (TV.trans (T.mono s0))
        replace Yi := Yi.out
        replace Yn := Yn.out
        replace Yl := Yl.out
        obtain ⟨Brrc0, Brrc1, Brrc2, Brrc3, Brrc4, Brrc5, Brrc6, Brrc7, Brrl⟩ := cb8 Brr
        obtain ⟨Bpc0, Bpl⟩ := cb1 Bp
        obtain ⟨Bwc0, Bwc1, Bwc2, Bwc3, Bwc4, Bwc5, Bwc6, Bwc7, Bwl⟩ := cb8 Bw
        obtain ⟨Bgc0, Bgc1, Bgc2, Bgc3, Bgc4, Bgc5, Bgc6, Bgc7, Bgl⟩ := cb8 Bg
        go_wp2_with fail
        clear Brrc0 Brrc1 Brrc2 Brrc3 Brrc4 Brrc5 Brrc6 Brrc7 Bpc0 Bwc0 Bwc1 Bwc2 Bwc3 Bwc4 Bwc5 Bwc6 Bwc7 Bgc0 Bgc1 Bgc2 Bgc3 Bgc4 Bgc5 Bgc6 Bgc7 Brrl Bpl Bwl Bgl
        refine (calls_ov (heldRoom_own (by exact Yi.ri.below (by repeat (first | exact bR | refine bO ?_ | refine bA ?_ | refine bS ?_ | refine bD ?_ | refine bN ?_))) (by exact (Yn.below (by repeat (first | exact bR | refine bO ?_ | refine bA ?_ | refine bS ?_ | refine bD ?_ | refine bN ?_))).r3) (by exact (Yl.below (by repeat (first | exact bR | refine bO ?_ | refine bA ?_ | refine bS ?_ | refine bD ?_ | refine bN ?_))).r3) ho.m ho.ns ho.ls)).mono ?_
        rintro e w' ⟨rfl, x, rfl⟩
        rw [hqv]
        obtain ⟨W19, hW⟩ : ∃ W19, W19 = ov W16 x := ⟨_, rfl⟩
        rw [← hW]
        have K : Below W16.heap.size W16 W19 := by rw [hW]; exact (by repeat (first | exact bR | refine bO ?_ | refine bA ?_ | refine bS ?_ | refine bD ?_ | refine bN ?_))
        clear hW
        replace T := T.trans (K.mono T.size)
        replace Brr := box_below Brr K
        replace Bp := box_below Bp K
        replace Bw := box_below Bw K
        replace Bg := box_below Bg K
        replace Xwi := Xwi.below K
        replace Xwn := Xwn.below K
        replace Xwl := Xwl.below K
        replace Yi := Yi.below K
        replace Yn := Yn.below K
        replace Yl := Yl.below K
        clear K Srr Sp
        have Srr := Rrr.below (TV.trans (T.mono s0))
        have Sp := Rp.below (TV.trans (T.mono s0))
        obtain ⟨Brrc0, Brrc1, Brrc2, Brrc3, Brrc4, Brrc5, Brrc6, Brrc7, Brrl⟩ := cb8 Brr
        obtain ⟨Bpc0, Bpl⟩ := cb1 Bp
        obtain ⟨Bwc0, Bwc1, Bwc2, Bwc3, Bwc4, Bwc5, Bwc6, Bwc7, Bwl⟩ := cb8 Bw
        obtain ⟨Bgc0, Bgc1, Bgc2, Bgc3, Bgc4, Bgc5, Bgc6, Bgc7, Bgl⟩ := cb8 Bg
        go_wp2_with fail
        clear Brrc0 Brrc1 Brrc2 Brrc3 Brrc4 Brrc5 Brrc6 Brrc7 Bpc0 Bwc0 Bwc1 Bwc2 Bwc3 Bwc4 Bwc5 Bwc6 Bwc7 Bgc0 Bgc1 Bgc2 Bgc3 Bgc4 Bgc5 Bgc6 Bgc7 Brrl Bpl Bwl Bgl
        obtain ⟨Brrc0, Brrc1, Brrc2, Brrc3, Brrc4, Brrc5, Brrc6, Brrc7, Brrl⟩ := cb8 Brr
        obtain ⟨Bpc0, Bpl⟩ := cb1 Bp
        obtain ⟨Bwc0, Bwc1, Bwc2, Bwc3, Bwc4, Bwc5, Bwc6, Bwc7, Bwl⟩ := cb8 Bw
        obtain ⟨Bgc0, Bgc1, Bgc2, Bgc3, Bgc4, Bgc5, Bgc6, Bgc7, Bgl⟩ := cb8 Bg
        refine wp_region_rel [.pur [] ?d4c0, .rel [] [1] false (IsOw (GRoom rr)), .pur [] ?d4c2, .rel [] [3] false (IsOw (GReg p)), .rel [1, 3] [4] false (IsOw (GRTupN out ok)), .rel [4] [5] false (IsOw (GRTupN out ok)), .rel [5] [6] false (IsOw (GRoomN out)), .pur [5] ?d4c7, .rel [] [8] false (IsAl 36 8), .rel [8, 6] [8, 6] true (IsSt 36), .pur [] ?d4c10] _ rfl rfl (by kernel_rfl) (by kernel_rfl) ?hstd4 (fun vs => ?walkd4)
        case' walkd4 =>
          (refine wpRel_pur rfl rfl (fun x => by ((go_wp2); refine relEnd_pur rfl ?_ (by repeat (first | exact bR | refine bO ?_ | refine bA ?_ | refine bS ?_ | refine bD ?_ | refine bN ?_)); simp only [Act.put, List.setIfInBounds_toArray, List.set_cons_succ, List.set_cons_zero]; rfl)) ?_; simp only [Act.put, List.setIfInBounds_toArray, List.set_cons_succ, List.set_cons_zero])
          refine wpRel_own rfl rfl rfl (fun x hh => ?_) ?_
          · go_wp2_with fail
            refine (toRoom_any rr (Srr.below (by repeat (first | exact bR | refine bO ?_ | refine bA ?_ | refine bS ?_ | refine bD ?_ | refine bN ?_))) hsrr).mono ?_
            rintro e w7 ⟨a71, d71, a72, d72, a73, d73, rfl, Q7, hb7⟩
            go_wp2
            refine relEnd_ow rfl rfl ?_ hb7 ⟨a71, d71, a72, d72, a73, d73, rfl, Q7.weak (by rw [ov_size]; omega)⟩
            (simp only [Act.put, List.setIfInBounds_toArray, List.set_cons_succ, List.set_cons_zero] <;> rfl)
          simp only [Act.put, List.setIfInBounds_toArray, List.set_cons_succ, List.set_cons_zero]
          (refine wpRel_pur rfl rfl (fun x => by ((go_wp2); refine relEnd_pur rfl ?_ (by repeat (first | exact bR | refine bO ?_ | refine bA ?_ | refine bS ?_ | refine bD ?_ | refine bN ?_)); simp only [Act.put, List.setIfInBounds_toArray, List.set_cons_succ, List.set_cons_zero]; rfl)) ?_; simp only [Act.put, List.setIfInBounds_toArray, List.set_cons_succ, List.set_cons_zero])
          refine wpRel_own rfl rfl rfl (fun x hh => ?_) ?_
          · go_wp2_with fail
            refine (toRegion_any (Sp.below (by repeat (first | exact bR | refine bO ?_ | refine bA ?_ | refine bS ?_ | refine bD ?_ | refine bN ?_))) (by omega)).mono ?_
            rintro e w7 ⟨a7, d7, rfl, Q7, hb7⟩
            go_wp2
            refine relEnd_ow rfl rfl ?_ hb7 ⟨a7, d7, rfl, Q7.weak (by rw [ov_size]; omega)⟩
            (simp only [Act.put, List.setIfInBounds_toArray, List.set_cons_succ, List.set_cons_zero] <;> rfl)
          simp only [Act.put, List.setIfInBounds_toArray, List.set_cons_succ, List.set_cons_zero]
          refine wpRel_own rfl rfl rfl (fun x hh => ?_) ?_
          · obtain ⟨ao11, do11, ao12, do12, ao13, do13, f1, Qo1⟩ := isOw_at (hh 1 (by simp)) rfl
            simp only [f1]
            obtain ⟨ao3, do3, f3, Qo3⟩ := isOw_at (hh 3 (by simp)) rfl
            simp only [f3]
            go_wp2_with fail
            refine (impl_WithNoise_eq Qo1.rm hsrr Qo3.r3 (by omega) HR).mono ?_
            rintro e w7 ⟨a71, d71, a72, d72, a73, d73, rfl, Q7, hb7⟩
            go_wp2
            refine relEnd_ow rfl rfl ?_ hb7 ⟨a71, d71, a72, d72, a73, d73, rfl, Q7.weak (by rw [ov_size]; omega)⟩
            (simp only [Act.put, List.setIfInBounds_toArray, List.set_cons_succ, List.set_cons_zero] <;> rfl)
          simp only [Act.put, List.setIfInBounds_toArray, List.set_cons_succ, List.set_cons_zero]
          refine wpRel_own rfl rfl rfl (fun x hh => ?_) ?_
          · obtain ⟨aoo1, doo1, aoo2, doo2, aoo3, doo3, fo, Qoo⟩ := isOw_at (hh 4 (by simp)) rfl
            simp only [fo]
            go_wp2
            refine relEnd_ow rfl rfl ?_ (Below.refl _ _) ⟨aoo1, doo1, aoo2, doo2, aoo3, doo3, rfl, Qoo⟩
            (simp only [Act.put, List.setIfInBounds_toArray, List.set_cons_succ, List.set_cons_zero] <;> rfl)
          simp only [Act.put, List.setIfInBounds_toArray, List.set_cons_succ, List.set_cons_zero]
          refine wpRel_own rfl rfl rfl (fun x hh => ?_) ?_
          · obtain ⟨aoo1, doo1, aoo2, doo2, aoo3, doo3, fo, Qoo⟩ := isOw_at (hh 5 (by simp)) rfl
            simp only [fo]
            go_wp2
            refine relEnd_ow rfl rfl ?_ (Below.refl _ _) ⟨aoo1, doo1, aoo2, doo2, aoo3, doo3, rfl, Qoo⟩
            (simp only [Act.put, List.setIfInBounds_toArray, List.set_cons_succ, List.set_cons_zero] <;> rfl)
          simp only [Act.put, List.setIfInBounds_toArray, List.set_cons_succ, List.set_cons_zero]
          (refine wpRel_purn rfl rfl (fun x hh => by ((obtain ⟨aoo1, doo1, aoo2, doo2, aoo3, doo3, fo, Qoo⟩ := isOw_at (hh 5 (by simp)) rfl; simp only [fo]); (go_wp2); refine relEnd_pur rfl ?_ (by repeat (first | exact bR | refine bO ?_ | refine bA ?_ | refine bS ?_ | refine bD ?_ | refine bN ?_)); simp only [Act.put, List.setIfInBounds_toArray, List.set_cons_succ, List.set_cons_zero]; rfl)) ?_; simp only [Act.put, List.setIfInBounds_toArray, List.set_cons_succ, List.set_cons_zero])
          refine wpRel_al #[.slice none 0 0, .int .i64 0, .int .i64 0, .int .i64 0, .int .i64 0, .int .i64 0, .slice none 0 0, .slice none 0 0] rfl rfl rfl rfl rfl rfl (fun w => by simp [go_sem]) ?_
          simp only [Act.put, List.setIfInBounds_toArray, List.set_cons_succ, List.set_cons_zero]
          refine wpRel_so rfl rfl rfl rfl rfl rfl (by decide) (by decide) rfl rfl (by kernel_rfl) (fun w hw => by obtain ⟨aoo1, doo1, aoo2, doo2, aoo3, doo3, fo, Qoo⟩ := hw; rw [fo]; exact room_cells _ _ _ _ _ _ _ _ _ _ _ _ _ _) (by repeat (first | exact all_nil | refine all_cons trivial ?_ | refine all_cons isAl_steady ?_ | refine all_cons (isOw_steady (by assumption)) ?_)) ?_
          (refine wpRel_pur rfl rfl (fun x => by ((go_wp2); refine relEnd_pur rfl ?_ (by repeat (first | exact bR | refine bO ?_ | refine bA ?_ | refine bS ?_ | refine bD ?_ | refine bN ?_)); simp only [Act.put, List.setIfInBounds_toArray, List.set_cons_succ, List.set_cons_zero]; rfl)) ?_; simp only [Act.put, List.setIfInBounds_toArray, List.set_cons_succ, List.set_cons_zero])
          refine wpRelE_nilB0 (fun W20 K hh => ?_)
          obtain ⟨bh, hen, hnb, hx⟩ := isSt_own (hh 9) rfl rfl rfl
          obtain ⟨aXhi, dh1, ahn, dh2, ahl, dh3, fo, Xh⟩ := isOw_at (hh 6) rfl
          rw [fo] at hx
          simp only [hen]
          have Bh := Lib.hid hx
          clear hx hnb hen fo
          clear hh
          clear Brrc0 Brrc1 Brrc2 Brrc3 Brrc4 Brrc5 Brrc6 Brrc7 Bpc0 Bwc0 Bwc1 Bwc2 Bwc3 Bwc4 Bwc5 Bwc6 Bwc7 Bgc0 Bgc1 Bgc2 Bgc3 Bgc4 Bgc5 Bgc6 Bgc7 Brrl Bpl Bwl Bgl
          obtain ⟨Xhi, Xhn, Xhl, apXhnXhl⟩ := Xh
          have apXwiXhi := apart_newN Xwi Xhi (by first | exact Nat.le_refl _ | (simp [ov_size]) | (simp [ov_size]; omega))
          have apYiXhi := apart_newN Yi Xhi (by first | exact Nat.le_refl _ | (simp [ov_size]) | (simp [ov_size]; omega))
          have apXwnXhn := apart_new Xwn Xhn (by first | exact Nat.le_refl _ | (simp [ov_size]) | (simp [ov_size]; omega))
          have apXwlXhn := apart_new Xwl Xhn (by first | exact Nat.le_refl _ | (simp [ov_size]) | (simp [ov_size]; omega))
          have apYnXhn := apart_new Yn Xhn (by first | exact Nat.le_refl _ | (simp [ov_size]) | (simp [ov_size]; omega))
          have apYlXhn := apart_new Yl Xhn (by first | exact Nat.le_refl _ | (simp [ov_size]) | (simp [ov_size]; omega))
          have apXwnXhl := apart_new Xwn Xhl (by first | exact Nat.le_refl _ | (simp [ov_size]) | (simp [ov_size]; omega))
          have apXwlXhl := apart_new Xwl Xhl (by first | exact Nat.le_refl _ | (simp [ov_size]) | (simp [ov_size]; omega))
          have apYnXhl := apart_new Yn Xhl (by first | exact Nat.le_refl _ | (simp [ov_size]) | (simp [ov_size]; omega))
          have apYlXhl := apart_new Yl Xhl (by first | exact Nat.le_refl _ | (simp [ov_size]) | (simp [ov_size]; omega))
          replace Xhi := Xhi.weak (B' := V.heap.size) (by have := T.size; (try simp [ov_size]); omega)
          replace Xhn := Xhn.weak (B' := V.heap.size) (by have := T.size; (try simp [ov_size]); omega)
          replace Xhl := Xhl.weak (B' := V.heap.size) (by have := T.size; (try simp [ov_size]); omega)
          replace T := T.trans (K.mono T.size)
          replace Brr := box_below Brr K
          replace Bp := box_below Bp K
          replace Bw := box_below Bw K
          replace Bg := box_below Bg K
          replace Xwi := Xwi.below K
          replace Xwn := Xwn.below K
          replace Xwl := Xwl.below K
          replace Yi := Yi.below K
          replace Yn := Yn.below K
          replace Yl := Yl.below K
          clear K Srr Sp
          have Srr := Rrr.below (TV.trans (T.mono s0))
          have Sp := Rp.below (TV.trans (T.mono s0))
          obtain ⟨Brrc0, Brrc1, Brrc2, Brrc3, Brrc4, Brrc5, Brrc6, Brrc7, Brrl⟩ := cb8 Brr
          obtain ⟨Bpc0, Bpl⟩ := cb1 Bp
          obtain ⟨Bwc0, Bwc1, Bwc2, Bwc3, Bwc4, Bwc5, Bwc6, Bwc7, Bwl⟩ := cb8 Bw
          obtain ⟨Bgc0, Bgc1, Bgc2, Bgc3, Bgc4, Bgc5, Bgc6, Bgc7, Bgl⟩ := cb8 Bg
          obtain ⟨Bhc0, Bhc1, Bhc2, Bhc3, Bhc4, Bhc5, Bhc6, Bhc7, Bhl⟩ := cb8 Bh
          go_wp2_with fail
          clear Brrc0 Brrc1 Brrc2 Brrc3 Brrc4 Brrc5 Brrc6 Brrc7 Bpc0 Bwc0 Bwc1 Bwc2 Bwc3 Bwc4 Bwc5 Bwc6 Bwc7 Bgc0 Bgc1 Bgc2 Bgc3 Bgc4 Bgc5 Bgc6 Bgc7 Bhc0 Bhc1 Bhc2 Bhc3 Bhc4 Bhc5 Bhc6 Bhc7 Brrl Bpl Bwl Bgl Bhl
          refine (calls_ov (eqRoom_same (by exact RM.below ⟨Xhi.ri, Xhn.r3, Xhl.r3⟩ (by repeat (first | exact bR | refine bO ?_ | refine bA ?_ | refine bS ?_ | refine bD ?_ | refine bN ?_))) (by exact RM.below ⟨Xwi.ri, Xwn.r3, Xwl.r3⟩ (by repeat (first | exact bR | refine bO ?_ | refine bA ?_ | refine bS ?_ | refine bD ?_ | refine bN ?_))) ho)).mono ?_
          rintro e w' ⟨rfl, x, rfl⟩
          obtain ⟨W21, hW⟩ : ∃ W21, W21 = ov W20 x := ⟨_, rfl⟩
          rw [← hW]
          have K : Below W20.heap.size W20 W21 := by rw [hW]; exact (by repeat (first | exact bR | refine bO ?_ | refine bA ?_ | refine bS ?_ | refine bD ?_ | refine bN ?_))
          clear hW
          replace T := T.trans (K.mono T.size)
          replace Brr := box_below Brr K
          replace Bp := box_below Bp K
          replace Bw := box_below Bw K
          replace Bg := box_below Bg K
          replace Bh := box_below Bh K
          replace Xwi := Xwi.below K
          replace Xwn := Xwn.below K
          replace Xwl := Xwl.below K
          replace Yi := Yi.below K
          replace Yn := Yn.below K
          replace Yl := Yl.below K
          replace Xhi := Xhi.below K
          replace Xhn := Xhn.below K
          replace Xhl := Xhl.below K
          clear K Srr Sp
          have Srr := Rrr.below (TV.trans (T.mono s0))
          have Sp := Rp.below (TV.trans (T.mono s0))
          obtain ⟨Brrc0, Brrc1, Brrc2, Brrc3, Brrc4, Brrc5, Brrc6, Brrc7, Brrl⟩ := cb8 Brr
          obtain ⟨Bpc0, Bpl⟩ := cb1 Bp
          obtain ⟨Bwc0, Bwc1, Bwc2, Bwc3, Bwc4, Bwc5, Bwc6, Bwc7, Bwl⟩ := cb8 Bw
          obtain ⟨Bgc0, Bgc1, Bgc2, Bgc3, Bgc4, Bgc5, Bgc6, Bgc7, Bgl⟩ := cb8 Bg
          obtain ⟨Bhc0, Bhc1, Bhc2, Bhc3, Bhc4, Bhc5, Bhc6, Bhc7, Bhl⟩ := cb8 Bh
          go_wp2_with fail
          clear Brrc0 Brrc1 Brrc2 Brrc3 Brrc4 Brrc5 Brrc6 Brrc7 Bpc0 Bwc0 Bwc1 Bwc2 Bwc3 Bwc4 Bwc5 Bwc6 Bwc7 Bgc0 Bgc1 Bgc2 Bgc3 Bgc4 Bgc5 Bgc6 Bgc7 Bhc0 Bhc1 Bhc2 Bhc3 Bhc4 Bhc5 Bhc6 Bhc7 Brrl Bpl Bwl Bgl Bhl
          refine (calls_ov (heldRoom_own (by exact Yi.ri.below (by repeat (first | exact bR | refine bO ?_ | refine bA ?_ | refine bS ?_ | refine bD ?_ | refine bN ?_))) (by exact (Yn.below (by repeat (first | exact bR | refine bO ?_ | refine bA ?_ | refine bS ?_ | refine bD ?_ | refine bN ?_))).r3) (by exact (Yl.below (by repeat (first | exact bR | refine bO ?_ | refine bA ?_ | refine bS ?_ | refine bD ?_ | refine bN ?_))).r3) ho.m ho.ns ho.ls)).mono ?_
          rintro e w' ⟨rfl, x, rfl⟩
          rw [hqv]
          obtain ⟨W22, hW⟩ : ∃ W22, W22 = ov W21 x := ⟨_, rfl⟩
          rw [← hW]
          have K : Below W21.heap.size W21 W22 := by rw [hW]; exact (by repeat (first | exact bR | refine bO ?_ | refine bA ?_ | refine bS ?_ | refine bD ?_ | refine bN ?_))
          clear hW
          replace T := T.trans (K.mono T.size)
          replace Brr := box_below Brr K
          replace Bp := box_below Bp K
          replace Bw := box_below Bw K
          replace Bg := box_below Bg K
          replace Bh := box_below Bh K
          replace Xwi := Xwi.below K
          replace Xwn := Xwn.below K
          replace Xwl := Xwl.below K
          replace Yi := Yi.below K
          replace Yn := Yn.below K
          replace Yl := Yl.below K
          replace Xhi := Xhi.below K
          replace Xhn := Xhn.below K
          replace Xhl := Xhl.below K
          clear K Srr Sp
          have Srr := Rrr.below (TV.trans (T.mono s0))
          have Sp := Rp.below (TV.trans (T.mono s0))
          obtain ⟨Brrc0, Brrc1, Brrc2, Brrc3, Brrc4, Brrc5, Brrc6, Brrc7, Brrl⟩ := cb8 Brr
          obtain ⟨Bpc0, Bpl⟩ := cb1 Bp
          obtain ⟨Bwc0, Bwc1, Bwc2, Bwc3, Bwc4, Bwc5, Bwc6, Bwc7, Bwl⟩ := cb8 Bw
          obtain ⟨Bgc0, Bgc1, Bgc2, Bgc3, Bgc4, Bgc5, Bgc6, Bgc7, Bgl⟩ := cb8 Bg
          obtain ⟨Bhc0, Bhc1, Bhc2, Bhc3, Bhc4, Bhc5, Bhc6, Bhc7, Bhl⟩ := cb8 Bh
          go_wp2
          go_ret
          exact ⟨rfl, (by repeat (first | exact TV.trans (T.mono s0) | refine bO ?_ | refine bA ?_ | refine bS ?_ | refine bD ?_ | refine bN ?_))⟩
        case' hstd4 => exact (by repeat (first | exact all_nil | refine all_cons trivial ?_ | refine all_cons isAl_stable ?_ | refine all_cons isSt_stable ?_ | refine all_cons isStB_stable ?_ | refine all_cons (isOw_stable (by assumption)) ?_))
      case' hstd3 => exact (by repeat (first | exact all_nil | refine all_cons trivial ?_ | refine all_cons isAl_stable ?_ | refine all_cons isSt_stable ?_ | refine all_cons isStB_stable ?_ | refine all_cons (isOw_stable (by assumption)) ?_))
    case' hstd2 => exact (by repeat (first | exact all_nil | refine all_cons trivial ?_ | refine all_cons isAl_stable ?_ | refine all_cons isSt_stable ?_ | refine all_cons isStB_stable ?_ | refine all_cons (isOw_stable (by assumption)) ?_))
  case' hstd1 => exact (by repeat (first | exact all_nil | refine all_cons trivial ?_ | refine all_cons isAl_stable ?_ | refine all_cons isSt_stable ?_ | refine all_cons isStB_stable ?_ | refine all_cons (isOw_stable (by assumption)) ?_))
set_option maxRecDepth 100000 in
theorem FnExactWithNoise_lifted (os : Os) (started : os.Started) (H : Type) (enc : TypeId × Value → H) :
    ReturnsInHanded {} Try.checked os 7 .any (Rows.fnExactWithNoiseSpec.pre6 enc Try.prog Try.f7 Rows.fnExactWithNoiseRow.domain false) (Rows.fnExactWithNoiseSpec.post enc Try.prog Try.f7 false true false false) := by
  refine returnsInHanded_of_change (C := Try.checked) own started (by kernel_rfl) Try.func7
    (ChangeSpec.witness6 (enc := enc) (C := Try.checked) false ⟨#[], #[.agg #[.slice none 0 0, .int .i64 0, .int .i64 0, .int .i64 0, .int .i64 0, .int .i64 0, .slice none 0 0, .slice none 0 0], .agg #[.slice none 0 0]], []⟩ 8 (by kernel_rfl) (by kernel_rfl) (by kernel_rfl) (by kernel_rfl)) ?_
  intro W base args ds gs before hval0 hW hcnd _
  have hval : ∀ (j : Nat) t v, Try.f7.params[j]? = some t → args[j]? = some v → Value.okWide Try.prog W .any base t v := hval0
  have hW' := hW
  obtain ⟨p, q, hA0, hV, rfl, hfz, hnd⟩ := hW
  have hA : DataW.TrodAll enc Try.prog W 0 (fun _ => true) true Try.f7.params.toList args.toList ds p := hA0
  rw [Try.params7] at hA hval
  obtain ⟨v0, vs0, d0, ds0, p0, q0, hargs0, rfl, rfl, h0, r0⟩ := trodAll_cons hA
  obtain ⟨v1, vs1, d1, ds1, p1, q1, hargs1, rfl, rfl, h1, r1⟩ := trodAll_cons r0
  obtain ⟨rfl, rfl, rfl⟩ := trodAll_nil r1
  obtain rfl : args = #[v0, v1] := by cases args; simp_all
  obtain ⟨rfl, rfl⟩ := trodVars_none hV
  have k0 := h0
  have lt0 : ∀ x ∈ p0, x.block < W.heap.size := by obtain ⟨m, hm⟩ := k0; exact DataW.trod_lt m _ _ _ hm
  have k1 := h1
  have lt1 : ∀ x ∈ p1, x.block < W.heap.size := by obtain ⟨m, hm⟩ := k1; exact DataW.trod_lt m _ _ _ hm
  have hv0 := hval 0 27 v0 rfl rfl
  have hv1 := hval 1 25 v1 rfl rfl
  obtain ⟨r0, A01, A02, A03, c01, c02, c03, rfl, RR0, hlen0⟩ := open_room hv0 h0
  obtain ⟨A1, c1, hs1, rfl, RR1, hlen1⟩ := open_region hv1 h1
  clear hA0 hval0
  refine (law36_any W RR0 hlen0 RR1 hlen1).mono fun e W' ⟨he, bel⟩ => ?_
  subst he
  exact ⟨_, rfl, _, _, _, [], _, [], hW', trodAll_mk1 (shut_bool Try.underlying4 _), (trodAll_cons_mk (Below.trod laidOut (by kernel_rfl) (of_decide_eq_true (by kernel_rfl)) k0 bel lt0) (trodAll_cons_mk (Below.trod laidOut (by kernel_rfl) (of_decide_eq_true (by kernel_rfl)) k1 bel lt1) trodAll_mk0)), rfl, bel.frame _, fun h => by cases h⟩

theorem FnExactWithNoise_holds : Rows.FnExactWithNoiseSaid :=
  OpenClaim.holds_of_wide 7 Try.f7 rfl rfl rfl rfl rfl rfl rfl ⟨rfl, rfl, rfl, rfl, rfl⟩ rfl rfl rfl rfl rfl (by kernel_rfl) Try.func7 (by kernel_rfl)
    (of_decide_eq_true (by kernel_rfl)) (by unfold Func.isWrapper; first | (rw [if_pos (by decide +kernel)]; kernel_rfl) | (rw [if_neg (by decide +kernel)]; exact ⟨rfl, rfl⟩))
    (fun os started H enc _ => FnExactWithNoise_lifted os started H enc)
#print axioms FnExactWithNoise_holds

end Go.Proofs.Ytgdleimdenbnlaa
