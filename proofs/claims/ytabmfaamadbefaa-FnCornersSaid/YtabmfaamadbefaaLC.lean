/- FnCorners returns true for every argument, and leaves it as it was. No condition. -/
import Derived.Test.YtabmfaamadbefaaObr
import Derived.Test.YtabmfaamadbefaaCe
import Derived.Test.YtabmfaamadbefaaHsp
import Derived.Test.YtabmfaamadbefaaBa
import Derived.Test.YtabmfaamadbefaaWn
import Derived.Test.YtabmfaamadbefaaWs
set_option linter.unusedVariables false
set_option linter.unusedSimpArgs false
set_option linter.unusedSectionVars false
namespace Go.Proofs.Ytabmfaamadbefaa
open Go.ChangeShapes Go.WideShapes Go.ChangeAt Go.RowKit Go.Joins

theorem corner_all {p : List H3} (A : AreaP p) : ∃ cs : List H3, cornersR p = cs ∧ cs.length = p.length ∧ ∀ i, (hi : i < p.length) → ∃ (hj : (i + 1) % p.length < p.length) (h1 : i < cs.length) (h2 : (i + 1) % p.length < cs.length), CornerP p i cs[i] cs[(i + 1) % p.length] p[i] p[(i + 1) % p.length] :=
  ⟨cornersL p, by unfold cornersR; rw [if_pos (area_ok A)], cornersL_length p, fun i hi => area_corner A hi⟩

set_option maxRecDepth 100000 in
set_option maxHeartbeats 8000000 in
theorem lawC_any {bs : List Int} {A : Option Addr} {c : Nat} (w : World) (Rcode : RY w A bs) (hlen : bs.length ≤ 9223372036854775807) :
    Calls Try.prog 5 #[.slice A bs.length c] w fun e w' => e = .returned (.bool true) ∧ Below w.heap.size w w' := by
  by_cases hm : 1048576 < bs.length
  · go_enter Try.func5, Try.ntmps5
    go_wp2
    go_ret
    exact ⟨rfl, (by repeat (first | exact bR | refine bO ?_ | refine bA ?_ | refine bS ?_ | refine bD ?_ | refine bN ?_))⟩
  replace hm : bs.length ≤ 1048576 := by omega
  go_enter Try.func5, Try.ntmps5
  go_wp2_with fail
  obtain ⟨V, hV⟩ : ∃ V, V = w := ⟨_, rfl⟩
  have TV : Below w.heap.size w V := by rw [hV]; exact Below.refl _ _
  have s0 : w.heap.size ≤ V.heap.size := TV.size
  obtain ⟨W0, hW⟩ : ∃ W0, W0 = w := ⟨_, rfl⟩
  rw [← hW]
  have T : Below V.heap.size V W0 := by rw [hW, hV]; exact Below.refl _ _
  clear hW hV
  have Scode := Rcode.below (TV.trans (T.mono s0))
  refine (MakeArea_any (Scode.below (by repeat (first | exact bR | refine bO ?_ | refine bA ?_ | refine bS ?_ | refine bD ?_ | refine bN ?_))) hm ⟨by omega, by omega⟩).mono ?_
  rintro e W1 ⟨⟨p, Ap, cp, rfl, Xp, kp, ApP⟩, hb⟩
  have K : Below W0.heap.size W0 W1 := Below.trans (by repeat (first | exact bR | refine bO ?_ | refine bA ?_ | refine bS ?_ | refine bD ?_ | refine bN ?_)) (hb.mono (by first | exact Nat.le_refl _ | simp [ov_size]))
  clear hb
  replace T := T.trans (K.mono T.size)
  clear K Scode
  have Scode := Rcode.below (TV.trans (T.mono s0))
  have lp := (region_good kp).2
  go_wp2_with fail
  obtain ⟨bp, hbx⟩ : ∃ b, b = W1.heap.size := ⟨_, rfl⟩
  rw [← hbx]
  obtain ⟨W2, hW⟩ : ∃ W, W = W1.alloc (.cells #[.slice Ap p.length cp] 25) := ⟨_, rfl⟩
  rw [← hW]
  have K : Below W1.heap.size W1 W2 := by rw [hW]; exact (by repeat (first | exact bR | refine bO ?_ | refine bA ?_ | refine bS ?_ | refine bD ?_ | refine bN ?_))
  have Bp := Lib.hid (show W2.heap[bp]? = some (.cells #[.slice Ap p.length cp] 25 (0, 0)) by rw [hW, hbx]; exact heap_alloc_new _ _)
  clear hW hbx
  replace T := T.trans (K.mono T.size)
  replace Xp := Xp.below K
  clear K Scode
  have Scode := Rcode.below (TV.trans (T.mono s0))
  have h3 := area_three ApP
  have hAS : ∀ i, (hi : i + 1 < p.length) → before p[i] p[i + 1] = true := fun i hi => area_sorted ApP hi
  obtain ⟨cs, hcr, hcl, hAC⟩ := corner_all ApP
  obtain ⟨X, Y, hin, ⟨bX1, bX2⟩, ⟨bY1, bY2⟩, hxy, hwn⟩ := area_inner ApP
  have okp := (region_good kp).1
  have HC := Lib.hid hcr
  have HC4 := Lib.hid hcl
  have HAC := Lib.hid hAC
  have HAS := Lib.hid hAS
  have HI := Lib.hid hin
  have HX := Lib.hid hxy
  obtain ⟨wn, hwv⟩ : ∃ v, wholeN p = v := ⟨_, rfl⟩
  rw [hwv] at hwn
  have HV := Lib.hid hwv
  have HOK := Lib.hid okp
  have HVD : Hid (decide (p.length = 0) = false) := Lib.hid (decide_eq_false (by omega))
  clear hcr hcl hAC hAS hin hxy hwv okp ApP
  refine (impl_CornersOf_eq (by exact Xp.below (by repeat (first | exact bR | refine bO ?_ | refine bA ?_ | refine bS ?_ | refine bD ?_ | refine bN ?_))) (by omega) HC).mono ?_
  rintro e W3 ⟨Ak, ck, rfl, Xk, hb⟩
  have K : Below W2.heap.size W2 W3 := Below.trans (by repeat (first | exact bR | refine bO ?_ | refine bA ?_ | refine bS ?_ | refine bD ?_ | refine bN ?_)) (hb.mono (by first | exact Nat.le_refl _ | simp [ov_size]))
  clear hb
  replace T := T.trans (K.mono T.size)
  replace Bp := box_below Bp K
  replace Xp := Xp.below K
  clear K Scode
  have Scode := Rcode.below (TV.trans (T.mono s0))
  replace Xk := Xk.r3
  rw [HC4.out]
  have hlt3 : ¬ (p.length : Int) < 3 := by omega
  obtain ⟨Bpc0, Bpl⟩ := cb1 Bp
  go_wp2_with (first | (go_at_call 13; (first | (with_reducible refine (calls_ov2 (IsVoid_eq HVD)).mono ?_) | refine (calls_ov (IsVoid_eq HVD)).mono ?_); rintro e w' ⟨rfl, x, rfl⟩))
  clear Bpc0 Bpl
  obtain ⟨W4, hW⟩ : ∃ Z, Z = ov W3 x := ⟨_, rfl⟩
  rw [← hW]
  have K : Below W3.heap.size W3 W4 := by rw [hW]; exact (by repeat (first | exact bR | refine bO ?_ | refine bA ?_ | refine bS ?_ | refine bD ?_ | refine bN ?_))
  clear hW
  replace T := T.trans (K.mono T.size)
  replace Bp := box_below Bp K
  replace Xp := Xp.below K
  replace Xk := Xk.below K
  clear K Scode
  have Scode := Rcode.below (TV.trans (T.mono s0))
  go_loopw [34] (fun i wr => ∃ j : Nat, j ≤ p.length ∧ i = .int .i64 j ∧ Below W4.heap.size W4 wr) (fun i _ => p.length - (intOf i).toNat)
  case atStart => exact ⟨0, by omega, rfl, Below.refl _ _⟩
  case round =>
    obtain ⟨j, hj, rfl, hb0⟩ := hrel
    have K := hb0
    obtain ⟨W50, hW⟩ : ∃ Z, Z = wr := ⟨_, rfl⟩
    rw [← hW] at K hb0 ⊢
    clear hW
    have TC := hb0
    replace T := T.trans (K.mono T.size)
    replace Bp := box_below Bp K
    replace Xp := Xp.below K
    replace Xk := Xk.below K
    clear K Scode
    have Scode := Rcode.below (TV.trans (T.mono s0))
    by_cases hlt : j < p.length
    · skip
      obtain ⟨hj2, h1, h2, CP⟩ := HAC.out j hlt
      have hrem := next_rem hlt
      obtain ⟨j2, hj2e⟩ : ∃ j2, (j + 1) % p.length = j2 := ⟨_, rfl⟩
      obtain ⟨gk, rfl, hgk, z0, z1, z2⟩ := Xk.at_ h1
      obtain ⟨_, t0, t1, t2⟩ := Xk.at2 h2
      obtain ⟨gp, rfl, hgp, y0, y1, y2⟩ := Xp.at_ hlt
      obtain ⟨_, u0, u1, u2⟩ := Xp.at2 hj2
      simp only [hj2e] at hrem t0 t1 t2 u0 u1 u2
      have hj2l : j2 < p.length := by rw [← hj2e]; exact hj2
      obtain ⟨⟨sa, sb, sc⟩, hcs⟩ : ∃ s, cs[j] = s := ⟨_, rfl⟩
      obtain ⟨⟨ta, tb, tc⟩, hct⟩ : ∃ s, cs[(j + 1) % p.length] = s := ⟨_, rfl⟩
      obtain ⟨⟨fa, fb, fc⟩, hcf⟩ : ∃ s, p[j] = s := ⟨_, rfl⟩
      obtain ⟨⟨ga, gb, gc⟩, hcg⟩ : ∃ s, p[(j + 1) % p.length] = s := ⟨_, rfl⟩
      have hct2 : cs[j2]'(by rw [← hj2e]; exact h2) = ⟨ta, tb, tc⟩ := by simp only [← hj2e]; exact hct
      have hcg2 : p[j2]'hj2l = ⟨ga, gb, gc⟩ := by simp only [← hj2e]; exact hcg
      have hcfk := Lib.hid hcf
      rw [hcs, hct, hcf, hcg] at CP
      rw [hcs] at z0 z1 z2
      rw [hct2] at t0 t1 t2
      rw [hcf] at y0 y1 y2
      rw [hcg2] at u0 u1 u2
      simp only at z0 z1 z2 t0 t1 t2 y0 y1 y2 u0 u1 u2
      have ks := okS_bd CP.ok
      simp only at ks
      obtain ⟨⟨ks1, ks2⟩, ⟨ks3, ks4⟩, ks5, ks6⟩ := ks
      have HS := Lib.hid CP.has
      have HK := Lib.hid CP.isc
      have hne : (¬ ta = sa) ∨ (ta = sa ∧ ¬ tb = sb) ∨ (ta = sa ∧ tb = sb ∧ ¬ tc = sc) := by
        rcases h3_parts (⟨ta, tb, tc⟩ : H3) ⟨sa, sb, sc⟩ with q | q
        · exact absurd q.1 CP.ne
        · exact q.2
      have F1 : Hid (sgn (sideI ⟨fa, fb, fc⟩ ⟨sa, sb, sc⟩) = 0) := Lib.hid (by rw [CP.onf]; rfl)
      have F2 : Hid (sgn (sideI ⟨ga, gb, gc⟩ ⟨sa, sb, sc⟩) = 0) := Lib.hid (by rw [CP.ong]; rfl)
      have KF := CP.kf
      have KG := CP.kg
      have KS := CP.ok
      simp only at HS
      have hn0 : ((p.length : Int) == 0) = false := beq_eq_false_iff_ne.2 (by omega)
      have hn1 : ¬ ((p.length : Int) = 0) := by omega
      clear CP hct hcg hcs hcf hct2 hcg2 h1 h2 hj2 hj2e
      obtain ⟨Bpc0, Bpl⟩ := cb1 Bp
      go_wp2_with fail
      clear Bpc0 Bpl
      obtain ⟨bs, hbx⟩ : ∃ b, b = W50.heap.size := ⟨_, rfl⟩
      rw [← hbx]
      obtain ⟨W51, hW⟩ : ∃ W, W = W50.alloc (.cells #[.int .i64 sa, .int .i64 sb, .int .i64 sc] 31) := ⟨_, rfl⟩
      rw [← hW]
      have K : Below W50.heap.size W50 W51 := by rw [hW]; exact (by repeat (first | exact bR | refine bO ?_ | refine bA ?_ | refine bS ?_ | refine bD ?_ | refine bN ?_))
      have Bs := Lib.hid (show W51.heap[bs]? = some (.cells #[.int .i64 sa, .int .i64 sb, .int .i64 sc] 31 (0, 0)) by rw [hW, hbx]; exact heap_alloc_new _ _)
      clear hW hbx
      replace TC := TC.trans (K.mono TC.size)
      replace z0 := (K.cell hgk).trans z0
      replace z1 := (K.cell hgk).trans z1
      replace z2 := (K.cell hgk).trans z2
      replace t0 := (K.cell hgk).trans t0
      replace t1 := (K.cell hgk).trans t1
      replace t2 := (K.cell hgk).trans t2
      replace y0 := (K.cell hgp).trans y0
      replace y1 := (K.cell hgp).trans y1
      replace y2 := (K.cell hgp).trans y2
      replace u0 := (K.cell hgp).trans u0
      replace u1 := (K.cell hgp).trans u1
      replace u2 := (K.cell hgp).trans u2
      replace hgk := Nat.lt_of_lt_of_le hgk K.size
      replace hgp := Nat.lt_of_lt_of_le hgp K.size
      replace T := T.trans (K.mono T.size)
      replace Bp := box_below Bp K
      replace Xp := Xp.below K
      replace Xk := Xk.below K
      clear K Scode
      have Scode := Rcode.below (TV.trans (T.mono s0))
      by_cases hj0 : j = 0
      · subst hj0
        have hrem1 : (1 : Int).tmod (p.length : Int) = (j2 : Int) := hrem
        rcases hne with hne | ⟨rfl, hne⟩ | ⟨rfl, rfl, hne⟩
        · skip
          obtain ⟨Bpc0, Bpl⟩ := cb1 Bp
          obtain ⟨Bsc0, Bsc1, Bsc2, Bsl⟩ := cb3 Bs
          ((first | (with_reducible refine wp_region_calm2 (by kernel_rfl) (by kernel_rfl) ?_) | refine wp_region_calm (by kernel_rfl) (by kernel_rfl) ?_); (repeat (go_big_quiet_step (first | (go_at_call 14; exact calm_below (impl_HasSpot_eq (by exact Xp.below (by repeat (first | exact bR | refine bO ?_ | refine bA ?_ | refine bS ?_ | refine bD ?_ | refine bN ?_))) (by omega) (by exact ⟨by omega, by omega, by omega⟩) (by exact HS))) | (go_at_call 23; exact calm_below (impl_IsCorner_eq (by exact Xp.below (by repeat (first | exact bR | refine bO ?_ | refine bA ?_ | refine bS ?_ | refine bD ?_ | refine bN ?_))) (by omega) (by exact HK))) | (go_at_call 24; exact calm_below (SideOf_eq (h := ⟨_, _, _⟩) (s := ⟨_, _, _⟩) (by assumption) (by assumption) (by assumption))) | (go_at_call 25; exact calm_below (BeforeAngle_eq (g := ⟨_, _, _⟩) (h := ⟨_, _, _⟩) (by assumption) (by assumption) (by assumption)))))); refine wpQuiet_nil ?_; rintro _ ⟨y, rfl⟩)
          clear Bpc0 Bsc0 Bsc1 Bsc2 Bpl Bsl
          obtain ⟨W52, hW⟩ : ∃ Z, Z = ov W51 y := ⟨_, rfl⟩
          rw [← hW]
          have K : Below W51.heap.size W51 W52 := by rw [hW]; exact (by repeat (first | exact bR | refine bO ?_ | refine bA ?_ | refine bS ?_ | refine bD ?_ | refine bN ?_))
          clear hW
          replace TC := TC.trans (K.mono TC.size)
          replace z0 := (K.cell hgk).trans z0
          replace z1 := (K.cell hgk).trans z1
          replace z2 := (K.cell hgk).trans z2
          replace t0 := (K.cell hgk).trans t0
          replace t1 := (K.cell hgk).trans t1
          replace t2 := (K.cell hgk).trans t2
          replace y0 := (K.cell hgp).trans y0
          replace y1 := (K.cell hgp).trans y1
          replace y2 := (K.cell hgp).trans y2
          replace u0 := (K.cell hgp).trans u0
          replace u1 := (K.cell hgp).trans u1
          replace u2 := (K.cell hgp).trans u2
          replace hgk := Nat.lt_of_lt_of_le hgk K.size
          replace hgp := Nat.lt_of_lt_of_le hgp K.size
          replace T := T.trans (K.mono T.size)
          replace Bp := box_below Bp K
          replace Bs := box_below Bs K
          replace Xp := Xp.below K
          replace Xk := Xk.below K
          clear K Scode
          have Scode := Rcode.below (TV.trans (T.mono s0))
          have TCs := TC.size
          obtain ⟨Bpc0, Bpl⟩ := cb1 Bp
          obtain ⟨Bsc0, Bsc1, Bsc2, Bsl⟩ := cb3 Bs
          go_wp2
          go_roundw
          case rel => exact ⟨0 + 1, by omega, by go_num, (by repeat (first | exact TC | refine bO ?_ | refine bA ?_ | refine bS ?_ | refine bD ?_ | refine bN ?_))⟩
          case measure => simp [intOf]; omega
        · skip
          obtain ⟨Bpc0, Bpl⟩ := cb1 Bp
          obtain ⟨Bsc0, Bsc1, Bsc2, Bsl⟩ := cb3 Bs
          ((first | (with_reducible refine wp_region_calm2 (by kernel_rfl) (by kernel_rfl) ?_) | refine wp_region_calm (by kernel_rfl) (by kernel_rfl) ?_); (repeat (go_big_quiet_step (first | (go_at_call 14; exact calm_below (impl_HasSpot_eq (by exact Xp.below (by repeat (first | exact bR | refine bO ?_ | refine bA ?_ | refine bS ?_ | refine bD ?_ | refine bN ?_))) (by omega) (by exact ⟨by omega, by omega, by omega⟩) (by exact HS))) | (go_at_call 23; exact calm_below (impl_IsCorner_eq (by exact Xp.below (by repeat (first | exact bR | refine bO ?_ | refine bA ?_ | refine bS ?_ | refine bD ?_ | refine bN ?_))) (by omega) (by exact HK))) | (go_at_call 24; exact calm_below (SideOf_eq (h := ⟨_, _, _⟩) (s := ⟨_, _, _⟩) (by assumption) (by assumption) (by assumption))) | (go_at_call 25; exact calm_below (BeforeAngle_eq (g := ⟨_, _, _⟩) (h := ⟨_, _, _⟩) (by assumption) (by assumption) (by assumption)))))); refine wpQuiet_nil ?_; rintro _ ⟨y, rfl⟩)
          clear Bpc0 Bsc0 Bsc1 Bsc2 Bpl Bsl
          obtain ⟨W53, hW⟩ : ∃ Z, Z = ov W51 y := ⟨_, rfl⟩
          rw [← hW]
          have K : Below W51.heap.size W51 W53 := by rw [hW]; exact (by repeat (first | exact bR | refine bO ?_ | refine bA ?_ | refine bS ?_ | refine bD ?_ | refine bN ?_))
          clear hW
          replace TC := TC.trans (K.mono TC.size)
          replace z0 := (K.cell hgk).trans z0
          replace z1 := (K.cell hgk).trans z1
          replace z2 := (K.cell hgk).trans z2
          replace t0 := (K.cell hgk).trans t0
          replace t1 := (K.cell hgk).trans t1
          replace t2 := (K.cell hgk).trans t2
          replace y0 := (K.cell hgp).trans y0
          replace y1 := (K.cell hgp).trans y1
          replace y2 := (K.cell hgp).trans y2
          replace u0 := (K.cell hgp).trans u0
          replace u1 := (K.cell hgp).trans u1
          replace u2 := (K.cell hgp).trans u2
          replace hgk := Nat.lt_of_lt_of_le hgk K.size
          replace hgp := Nat.lt_of_lt_of_le hgp K.size
          replace T := T.trans (K.mono T.size)
          replace Bp := box_below Bp K
          replace Bs := box_below Bs K
          replace Xp := Xp.below K
          replace Xk := Xk.below K
          clear K Scode
          have Scode := Rcode.below (TV.trans (T.mono s0))
          have TCs := TC.size
          obtain ⟨Bpc0, Bpl⟩ := cb1 Bp
          obtain ⟨Bsc0, Bsc1, Bsc2, Bsl⟩ := cb3 Bs
          go_wp2
          go_roundw
          case rel => exact ⟨0 + 1, by omega, by go_num, (by repeat (first | exact TC | refine bO ?_ | refine bA ?_ | refine bS ?_ | refine bD ?_ | refine bN ?_))⟩
          case measure => simp [intOf]; omega
        · skip
          obtain ⟨Bpc0, Bpl⟩ := cb1 Bp
          obtain ⟨Bsc0, Bsc1, Bsc2, Bsl⟩ := cb3 Bs
          ((first | (with_reducible refine wp_region_calm2 (by kernel_rfl) (by kernel_rfl) ?_) | refine wp_region_calm (by kernel_rfl) (by kernel_rfl) ?_); (repeat (go_big_quiet_step (first | (go_at_call 14; exact calm_below (impl_HasSpot_eq (by exact Xp.below (by repeat (first | exact bR | refine bO ?_ | refine bA ?_ | refine bS ?_ | refine bD ?_ | refine bN ?_))) (by omega) (by exact ⟨by omega, by omega, by omega⟩) (by exact HS))) | (go_at_call 23; exact calm_below (impl_IsCorner_eq (by exact Xp.below (by repeat (first | exact bR | refine bO ?_ | refine bA ?_ | refine bS ?_ | refine bD ?_ | refine bN ?_))) (by omega) (by exact HK))) | (go_at_call 24; exact calm_below (SideOf_eq (h := ⟨_, _, _⟩) (s := ⟨_, _, _⟩) (by assumption) (by assumption) (by assumption))) | (go_at_call 25; exact calm_below (BeforeAngle_eq (g := ⟨_, _, _⟩) (h := ⟨_, _, _⟩) (by assumption) (by assumption) (by assumption)))))); refine wpQuiet_nil ?_; rintro _ ⟨y, rfl⟩)
          clear Bpc0 Bsc0 Bsc1 Bsc2 Bpl Bsl
          obtain ⟨W54, hW⟩ : ∃ Z, Z = ov W51 y := ⟨_, rfl⟩
          rw [← hW]
          have K : Below W51.heap.size W51 W54 := by rw [hW]; exact (by repeat (first | exact bR | refine bO ?_ | refine bA ?_ | refine bS ?_ | refine bD ?_ | refine bN ?_))
          clear hW
          replace TC := TC.trans (K.mono TC.size)
          replace z0 := (K.cell hgk).trans z0
          replace z1 := (K.cell hgk).trans z1
          replace z2 := (K.cell hgk).trans z2
          replace t0 := (K.cell hgk).trans t0
          replace t1 := (K.cell hgk).trans t1
          replace t2 := (K.cell hgk).trans t2
          replace y0 := (K.cell hgp).trans y0
          replace y1 := (K.cell hgp).trans y1
          replace y2 := (K.cell hgp).trans y2
          replace u0 := (K.cell hgp).trans u0
          replace u1 := (K.cell hgp).trans u1
          replace u2 := (K.cell hgp).trans u2
          replace hgk := Nat.lt_of_lt_of_le hgk K.size
          replace hgp := Nat.lt_of_lt_of_le hgp K.size
          replace T := T.trans (K.mono T.size)
          replace Bp := box_below Bp K
          replace Bs := box_below Bs K
          replace Xp := Xp.below K
          replace Xk := Xk.below K
          clear K Scode
          have Scode := Rcode.below (TV.trans (T.mono s0))
          have TCs := TC.size
          obtain ⟨Bpc0, Bpl⟩ := cb1 Bp
          obtain ⟨Bsc0, Bsc1, Bsc2, Bsl⟩ := cb3 Bs
          go_wp2
          go_roundw
          case rel => exact ⟨0 + 1, by omega, by go_num, (by repeat (first | exact TC | refine bO ?_ | refine bA ?_ | refine bS ?_ | refine bD ?_ | refine bN ?_))⟩
          case measure => simp [intOf]; omega
      · have hjm : j - 1 < p.length := by omega
        obtain ⟨_, v0, v1, v2⟩ := Xp.at2 hjm
        have hb4 := HAS.out (j - 1) (by omega)
        have hji : j - 1 + 1 = j := by omega
        simp only [hji] at hb4
        have KE := HOK.out _ (List.getElem_mem hjm)
        have hcf3 := hcfk.out
        rw [hcf3] at hb4
        obtain ⟨⟨ea, eb, ec⟩, hce⟩ : ∃ s, p[j - 1] = s := ⟨_, rfl⟩
        rw [hce] at v0 v1 v2 hb4 KE
        simp only at v0 v1 v2
        have HB4 := Lib.hid hb4
        have hsub : (j : Int) - 1 = ((j - 1 : Nat) : Int) := by omega
        obtain ⟨jm, hjme⟩ : ∃ jm, j - 1 = jm := ⟨_, rfl⟩
        rw [hjme] at v0 v1 v2 hsub
        have hj1 : decide ((0 : Int) < (j : Int)) = true := decide_eq_true (by omega)
        have hj1n : 0 < j := by omega
        have hj1i : (0 : Int) < (j : Int) := by omega
        have hjml : jm < p.length := by omega
        clear hcf3 hce hb4 hji hjm hjme hj0
        rcases hne with hne | ⟨rfl, hne⟩ | ⟨rfl, rfl, hne⟩
        · skip
          obtain ⟨Bpc0, Bpl⟩ := cb1 Bp
          obtain ⟨Bsc0, Bsc1, Bsc2, Bsl⟩ := cb3 Bs
          ((first | (with_reducible refine wp_region_calm2 (by kernel_rfl) (by kernel_rfl) ?_) | refine wp_region_calm (by kernel_rfl) (by kernel_rfl) ?_); (repeat (go_big_quiet_step (first | (go_at_call 14; exact calm_below (impl_HasSpot_eq (by exact Xp.below (by repeat (first | exact bR | refine bO ?_ | refine bA ?_ | refine bS ?_ | refine bD ?_ | refine bN ?_))) (by omega) (by exact ⟨by omega, by omega, by omega⟩) (by exact HS))) | (go_at_call 23; exact calm_below (impl_IsCorner_eq (by exact Xp.below (by repeat (first | exact bR | refine bO ?_ | refine bA ?_ | refine bS ?_ | refine bD ?_ | refine bN ?_))) (by omega) (by exact HK))) | (go_at_call 24; exact calm_below (SideOf_eq (h := ⟨_, _, _⟩) (s := ⟨_, _, _⟩) (by assumption) (by assumption) (by assumption))) | (go_at_call 25; exact calm_below (BeforeAngle_eq (g := ⟨_, _, _⟩) (h := ⟨_, _, _⟩) (by assumption) (by assumption) (by assumption)))))); refine wpQuiet_nil ?_; rintro _ ⟨y, rfl⟩)
          clear Bpc0 Bsc0 Bsc1 Bsc2 Bpl Bsl
          obtain ⟨W55, hW⟩ : ∃ Z, Z = ov W51 y := ⟨_, rfl⟩
          rw [← hW]
          have K : Below W51.heap.size W51 W55 := by rw [hW]; exact (by repeat (first | exact bR | refine bO ?_ | refine bA ?_ | refine bS ?_ | refine bD ?_ | refine bN ?_))
          clear hW
          replace TC := TC.trans (K.mono TC.size)
          replace z0 := (K.cell hgk).trans z0
          replace z1 := (K.cell hgk).trans z1
          replace z2 := (K.cell hgk).trans z2
          replace t0 := (K.cell hgk).trans t0
          replace t1 := (K.cell hgk).trans t1
          replace t2 := (K.cell hgk).trans t2
          replace y0 := (K.cell hgp).trans y0
          replace y1 := (K.cell hgp).trans y1
          replace y2 := (K.cell hgp).trans y2
          replace u0 := (K.cell hgp).trans u0
          replace u1 := (K.cell hgp).trans u1
          replace u2 := (K.cell hgp).trans u2
          replace v0 := (K.cell hgp).trans v0
          replace v1 := (K.cell hgp).trans v1
          replace v2 := (K.cell hgp).trans v2
          replace hgk := Nat.lt_of_lt_of_le hgk K.size
          replace hgp := Nat.lt_of_lt_of_le hgp K.size
          replace T := T.trans (K.mono T.size)
          replace Bp := box_below Bp K
          replace Bs := box_below Bs K
          replace Xp := Xp.below K
          replace Xk := Xk.below K
          clear K Scode
          have Scode := Rcode.below (TV.trans (T.mono s0))
          have TCs := TC.size
          obtain ⟨Bpc0, Bpl⟩ := cb1 Bp
          obtain ⟨Bsc0, Bsc1, Bsc2, Bsl⟩ := cb3 Bs
          go_wp2
          go_roundw
          case rel => exact ⟨j + 1, by omega, by go_num, (by repeat (first | exact TC | refine bO ?_ | refine bA ?_ | refine bS ?_ | refine bD ?_ | refine bN ?_))⟩
          case measure => simp [intOf]; omega
        · skip
          obtain ⟨Bpc0, Bpl⟩ := cb1 Bp
          obtain ⟨Bsc0, Bsc1, Bsc2, Bsl⟩ := cb3 Bs
          ((first | (with_reducible refine wp_region_calm2 (by kernel_rfl) (by kernel_rfl) ?_) | refine wp_region_calm (by kernel_rfl) (by kernel_rfl) ?_); (repeat (go_big_quiet_step (first | (go_at_call 14; exact calm_below (impl_HasSpot_eq (by exact Xp.below (by repeat (first | exact bR | refine bO ?_ | refine bA ?_ | refine bS ?_ | refine bD ?_ | refine bN ?_))) (by omega) (by exact ⟨by omega, by omega, by omega⟩) (by exact HS))) | (go_at_call 23; exact calm_below (impl_IsCorner_eq (by exact Xp.below (by repeat (first | exact bR | refine bO ?_ | refine bA ?_ | refine bS ?_ | refine bD ?_ | refine bN ?_))) (by omega) (by exact HK))) | (go_at_call 24; exact calm_below (SideOf_eq (h := ⟨_, _, _⟩) (s := ⟨_, _, _⟩) (by assumption) (by assumption) (by assumption))) | (go_at_call 25; exact calm_below (BeforeAngle_eq (g := ⟨_, _, _⟩) (h := ⟨_, _, _⟩) (by assumption) (by assumption) (by assumption)))))); refine wpQuiet_nil ?_; rintro _ ⟨y, rfl⟩)
          clear Bpc0 Bsc0 Bsc1 Bsc2 Bpl Bsl
          obtain ⟨W56, hW⟩ : ∃ Z, Z = ov W51 y := ⟨_, rfl⟩
          rw [← hW]
          have K : Below W51.heap.size W51 W56 := by rw [hW]; exact (by repeat (first | exact bR | refine bO ?_ | refine bA ?_ | refine bS ?_ | refine bD ?_ | refine bN ?_))
          clear hW
          replace TC := TC.trans (K.mono TC.size)
          replace z0 := (K.cell hgk).trans z0
          replace z1 := (K.cell hgk).trans z1
          replace z2 := (K.cell hgk).trans z2
          replace t0 := (K.cell hgk).trans t0
          replace t1 := (K.cell hgk).trans t1
          replace t2 := (K.cell hgk).trans t2
          replace y0 := (K.cell hgp).trans y0
          replace y1 := (K.cell hgp).trans y1
          replace y2 := (K.cell hgp).trans y2
          replace u0 := (K.cell hgp).trans u0
          replace u1 := (K.cell hgp).trans u1
          replace u2 := (K.cell hgp).trans u2
          replace v0 := (K.cell hgp).trans v0
          replace v1 := (K.cell hgp).trans v1
          replace v2 := (K.cell hgp).trans v2
          replace hgk := Nat.lt_of_lt_of_le hgk K.size
          replace hgp := Nat.lt_of_lt_of_le hgp K.size
          replace T := T.trans (K.mono T.size)
          replace Bp := box_below Bp K
          replace Bs := box_below Bs K
          replace Xp := Xp.below K
          replace Xk := Xk.below K
          clear K Scode
          have Scode := Rcode.below (TV.trans (T.mono s0))
          have TCs := TC.size
          obtain ⟨Bpc0, Bpl⟩ := cb1 Bp
          obtain ⟨Bsc0, Bsc1, Bsc2, Bsl⟩ := cb3 Bs
          go_wp2
          go_roundw
          case rel => exact ⟨j + 1, by omega, by go_num, (by repeat (first | exact TC | refine bO ?_ | refine bA ?_ | refine bS ?_ | refine bD ?_ | refine bN ?_))⟩
          case measure => simp [intOf]; omega
        · skip
          obtain ⟨Bpc0, Bpl⟩ := cb1 Bp
          obtain ⟨Bsc0, Bsc1, Bsc2, Bsl⟩ := cb3 Bs
          ((first | (with_reducible refine wp_region_calm2 (by kernel_rfl) (by kernel_rfl) ?_) | refine wp_region_calm (by kernel_rfl) (by kernel_rfl) ?_); (repeat (go_big_quiet_step (first | (go_at_call 14; exact calm_below (impl_HasSpot_eq (by exact Xp.below (by repeat (first | exact bR | refine bO ?_ | refine bA ?_ | refine bS ?_ | refine bD ?_ | refine bN ?_))) (by omega) (by exact ⟨by omega, by omega, by omega⟩) (by exact HS))) | (go_at_call 23; exact calm_below (impl_IsCorner_eq (by exact Xp.below (by repeat (first | exact bR | refine bO ?_ | refine bA ?_ | refine bS ?_ | refine bD ?_ | refine bN ?_))) (by omega) (by exact HK))) | (go_at_call 24; exact calm_below (SideOf_eq (h := ⟨_, _, _⟩) (s := ⟨_, _, _⟩) (by assumption) (by assumption) (by assumption))) | (go_at_call 25; exact calm_below (BeforeAngle_eq (g := ⟨_, _, _⟩) (h := ⟨_, _, _⟩) (by assumption) (by assumption) (by assumption)))))); refine wpQuiet_nil ?_; rintro _ ⟨y, rfl⟩)
          clear Bpc0 Bsc0 Bsc1 Bsc2 Bpl Bsl
          obtain ⟨W57, hW⟩ : ∃ Z, Z = ov W51 y := ⟨_, rfl⟩
          rw [← hW]
          have K : Below W51.heap.size W51 W57 := by rw [hW]; exact (by repeat (first | exact bR | refine bO ?_ | refine bA ?_ | refine bS ?_ | refine bD ?_ | refine bN ?_))
          clear hW
          replace TC := TC.trans (K.mono TC.size)
          replace z0 := (K.cell hgk).trans z0
          replace z1 := (K.cell hgk).trans z1
          replace z2 := (K.cell hgk).trans z2
          replace t0 := (K.cell hgk).trans t0
          replace t1 := (K.cell hgk).trans t1
          replace t2 := (K.cell hgk).trans t2
          replace y0 := (K.cell hgp).trans y0
          replace y1 := (K.cell hgp).trans y1
          replace y2 := (K.cell hgp).trans y2
          replace u0 := (K.cell hgp).trans u0
          replace u1 := (K.cell hgp).trans u1
          replace u2 := (K.cell hgp).trans u2
          replace v0 := (K.cell hgp).trans v0
          replace v1 := (K.cell hgp).trans v1
          replace v2 := (K.cell hgp).trans v2
          replace hgk := Nat.lt_of_lt_of_le hgk K.size
          replace hgp := Nat.lt_of_lt_of_le hgp K.size
          replace T := T.trans (K.mono T.size)
          replace Bp := box_below Bp K
          replace Bs := box_below Bs K
          replace Xp := Xp.below K
          replace Xk := Xk.below K
          clear K Scode
          have Scode := Rcode.below (TV.trans (T.mono s0))
          have TCs := TC.size
          obtain ⟨Bpc0, Bpl⟩ := cb1 Bp
          obtain ⟨Bsc0, Bsc1, Bsc2, Bsl⟩ := cb3 Bs
          go_wp2
          go_roundw
          case rel => exact ⟨j + 1, by omega, by go_num, (by repeat (first | exact TC | refine bO ?_ | refine bA ?_ | refine bS ?_ | refine bD ?_ | refine bN ?_))⟩
          case measure => simp [intOf]; omega
    · have HQ : Below w.heap.size w W50 := TV.trans (T.mono s0)
      obtain ⟨Bpc0, Bpl⟩ := cb1 Bp
      go_wp2_with fail
      clear Bpc0 Bpl
      refine (calls_ov (impl_InnerSpot_eq (by exact Xp.below (by repeat (first | exact bR | refine bO ?_ | refine bA ?_ | refine bS ?_ | refine bD ?_ | refine bN ?_))) (by omega) HI)).mono ?_
      rintro e w' ⟨rfl, x9, rfl⟩
      obtain ⟨W58, hW⟩ : ∃ Z, Z = ov W50 x9 := ⟨_, rfl⟩
      rw [← hW]
      have K : Below W50.heap.size W50 W58 := by rw [hW]; exact (by repeat (first | exact bR | refine bO ?_ | refine bA ?_ | refine bS ?_ | refine bD ?_ | refine bN ?_))
      clear hW
      replace T := T.trans (K.mono T.size)
      replace Bp := box_below Bp K
      replace Xp := Xp.below K
      replace Xk := Xk.below K
      clear K Scode
      have Scode := Rcode.below (TV.trans (T.mono s0))
      obtain ⟨Bpc0, Bpl⟩ := cb1 Bp
      go_wp2_with fail
      clear Bpc0 Bpl
      obtain ⟨bi, hbx⟩ : ∃ b, b = W58.heap.size := ⟨_, rfl⟩
      rw [← hbx]
      obtain ⟨W59, hW⟩ : ∃ W, W = W58.alloc (.cells #[.int .i64 X, .int .i64 Y, .int .i64 1] 31) := ⟨_, rfl⟩
      rw [← hW]
      have K : Below W58.heap.size W58 W59 := by rw [hW]; exact (by repeat (first | exact bR | refine bO ?_ | refine bA ?_ | refine bS ?_ | refine bD ?_ | refine bN ?_))
      have Bi := Lib.hid (show W59.heap[bi]? = some (.cells #[.int .i64 X, .int .i64 Y, .int .i64 1] 31 (0, 0)) by rw [hW, hbx]; exact heap_alloc_new _ _)
      clear hW hbx
      replace T := T.trans (K.mono T.size)
      replace Bp := box_below Bp K
      replace Xp := Xp.below K
      replace Xk := Xk.below K
      clear K Scode
      have Scode := Rcode.below (TV.trans (T.mono s0))
      have HF := TV.trans (T.mono s0)
      have HFs := HF.size
      obtain ⟨Bpc0, Bpl⟩ := cb1 Bp
      obtain ⟨Bic0, Bic1, Bic2, Bil⟩ := cb3 Bi
      go_wp2_with (first | (go_at_call 14; (first | (with_reducible refine (calls_ov2 (impl_HasSpot_eq (by exact Xp.below (by repeat (first | exact bR | refine bO ?_ | refine bA ?_ | refine bS ?_ | refine bD ?_ | refine bN ?_))) (by omega) (by exact ⟨by omega, by omega, by omega⟩) (by exact HX))).mono ?_) | refine (calls_ov (impl_HasSpot_eq (by exact Xp.below (by repeat (first | exact bR | refine bO ?_ | refine bA ?_ | refine bS ?_ | refine bD ?_ | refine bN ?_))) (by omega) (by exact ⟨by omega, by omega, by omega⟩) (by exact HX))).mono ?_); rintro e w' ⟨rfl, x, rfl⟩) | (go_at_call 27; (first | (with_reducible refine (calls_ov2 (IsWhole_yes (by omega) (by omega))).mono ?_) | refine (calls_ov (IsWhole_yes (by omega) (by omega))).mono ?_); rintro e w' ⟨rfl, x, rfl⟩) | (go_at_call 16; (first | (with_reducible refine (calls_ov2 (impl_WholeSpots_eq (by exact Xp.below (by repeat (first | exact bR | refine bO ?_ | refine bA ?_ | refine bS ?_ | refine bD ?_ | refine bN ?_))) (by omega) HV)).mono ?_) | refine (calls_ov (impl_WholeSpots_eq (by exact Xp.below (by repeat (first | exact bR | refine bO ?_ | refine bA ?_ | refine bS ?_ | refine bD ?_ | refine bN ?_))) (by omega) HV)).mono ?_); rintro e w' ⟨rfl, x, rfl⟩))
      go_ret
      exact ⟨rfl, (by repeat (first | exact HF | refine bO ?_ | refine bA ?_ | refine bS ?_ | refine bD ?_ | refine bN ?_))⟩
set_option maxRecDepth 100000 in
theorem FnCorners_lifted (os : Os) (started : os.Started) (H : Type) (enc : TypeId × Value → H) :
    ReturnsInHanded {} Try.checked os 5 .any (Rows.fnCornersSpec.pre6 enc Try.prog Try.f5 Rows.fnCornersRow.domain false) (Rows.fnCornersSpec.post enc Try.prog Try.f5 false true false false) := by
  refine returnsInHanded_of_change (C := Try.checked) own started (by kernel_rfl) Try.func5
    (ChangeSpec.witness6 (enc := enc) (C := Try.checked) false ⟨#[], #[.slice none 0 0], []⟩ 8 (by kernel_rfl) (by kernel_rfl) (by kernel_rfl) (by kernel_rfl)) ?_
  intro W base args ds gs before hval0 hW hcnd _
  have hval : ∀ (j : Nat) t v, Try.f5.params[j]? = some t → args[j]? = some v → Value.okWide Try.prog W .any base t v := hval0
  have hW' := hW
  obtain ⟨p, q, hA0, hV, rfl, hfz, hnd⟩ := hW
  have hA : DataW.TrodAll enc Try.prog W 0 (fun _ => true) true Try.f5.params.toList args.toList ds p := hA0
  rw [Try.params5] at hA hval
  obtain ⟨v0, vs0, d0, ds0, p0, q0, hargs0, rfl, rfl, h0, r0⟩ := trodAll_cons hA
  obtain ⟨rfl, rfl, rfl⟩ := trodAll_nil r0
  obtain rfl : args = #[v0] := by cases args; simp_all
  obtain ⟨rfl, rfl⟩ := trodVars_none hV
  have k0 := h0
  have lt0 : ∀ x ∈ p0, x.block < W.heap.size := by obtain ⟨m, hm⟩ := k0; exact DataW.trod_lt m _ _ _ hm
  have hv0 := hval 0 22 v0 rfl rfl
  obtain ⟨A0, c0, xs0, rfl, RR0, hlen0⟩ := open_bytes hv0 h0
  clear hA0 hval0
  refine (lawC_any W RR0 hlen0).mono fun e W' ⟨he, bel⟩ => ?_
  subst he
  exact ⟨_, rfl, _, _, _, [], _, [], hW', trodAll_mk1 (shut_bool Try.underlying4 _), (trodAll_cons_mk (Below.trod laidOut (by kernel_rfl) (of_decide_eq_true (by kernel_rfl)) k0 bel lt0) trodAll_mk0), rfl, bel.frame _, fun h => by cases h⟩

theorem FnCorners_holds : Rows.FnCornersSaid :=
  OpenClaim.holds_of_wide 5 Try.f5 rfl rfl rfl rfl rfl rfl rfl ⟨rfl, rfl, rfl, rfl, rfl⟩ rfl rfl rfl rfl rfl (by kernel_rfl) Try.func5 (by kernel_rfl)
    (of_decide_eq_true (by kernel_rfl)) (by unfold Func.isWrapper; first | (rw [if_pos (by decide +kernel)]; kernel_rfl) | (rw [if_neg (by decide +kernel)]; exact ⟨rfl, rfl⟩))
    (fun os started H enc _ => FnCorners_lifted os started H enc)
#print axioms FnCorners_holds

end Go.Proofs.Ytabmfaamadbefaa
