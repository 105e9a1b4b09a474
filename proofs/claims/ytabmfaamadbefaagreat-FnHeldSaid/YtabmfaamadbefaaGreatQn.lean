/- Contracts of admit of the program and l11Admit of the reference. Condition: a valid room, region and spot. -/
import Derived.Test.YtabmfaamadbefaaGreatQm
import Derived.Test.YtabmfaamadbefaaGreatRmo
import Derived.Test.YtabmfaamadbefaaGreatQz
set_option linter.unusedVariables false
set_option linter.unusedSimpArgs false
set_option linter.unusedSectionVars false
namespace Go.Proofs.YtabmfaamadbefaaGreat
open Go.RowKit
theorem set4_01 {w : World} {b : Nat} {T : TypeId} {a0 a1 a2 a3 u v : Value} (h : w.heap[b]? = some (.cells #[a0, a1, a2, a3] T (0, 0))) : ((w.setCell ⟨b, 0, none⟩ u).setCell ⟨b, 1, none⟩ v).heap[b]? = some (.cells #[u, v, a2, a3] T (0, 0)) := by
  have h1 : (w.setCell ⟨b, 0, none⟩ u).heap[b]? = some (.cells #[u, a1, a2, a3] T (0, 0)) := by
    have := heap_setCell_same w b 0 _ T u h
    simpa using this
  have := heap_setCell_same _ b 1 _ T v h1
  simpa using this
theorem set4_23 {w : World} {b : Nat} {T : TypeId} {a0 a1 a2 a3 u v : Value} (h : w.heap[b]? = some (.cells #[a0, a1, a2, a3] T (0, 0))) : ((w.setCell ⟨b, 2, none⟩ u).setCell ⟨b, 3, none⟩ v).heap[b]? = some (.cells #[a0, a1, u, v] T (0, 0)) := by
  have h1 : (w.setCell ⟨b, 2, none⟩ u).heap[b]? = some (.cells #[a0, a1, u, a3] T (0, 0)) := by
    have := heap_setCell_same w b 2 _ T u h
    simpa using this
  have := heap_setCell_same _ b 3 _ T v h1
  simpa using this
set_option maxRecDepth 100000 in
set_option maxHeartbeats 8000000 in
theorem impl_admit_eq {r : RoomV} {Ar1 Ar2 Ar3 : Option Addr} {cr1 cr2 cr3 : Nat} {e : List H3} {Ae : Option Addr} {ce : Nat} {x1 y1 d1 : Int} {w : World} {l1 l2 m1 m2 : Int} {ok : Bool} (Rr : RM w r Ar1 Ar2 cr2 Ar3 cr3) (hsr : r.Short) (Re : R3 44 w Ae ce e) (P : RoomP r) (ke : regionOk e = true) (hsp : spotOk x1 y1 d1 = true) (hd : d1 ≤ 100000) (hr : Hid (admV r e x1 y1 d1 = (((l1, l2), (m1, m2)), ok))) :
    Calls Tryz.prog 68 #[.agg #[.slice Ar1 r.m.length cr1, .int .i64 r.q, .int .i64 r.bx, .int .i64 r.by_, .int .i64 r.lo, .int .i64 r.hi, .slice Ar2 r.ns.length cr2, .slice Ar3 r.ls.length cr3], .agg #[.slice Ae e.length ce], .agg #[.int .i64 x1, .int .i64 y1, .int .i64 d1]] w (fun e' w' => e' = .returned (.tuple #[.agg #[.int .i64 l1, .int .i64 l2, .int .i64 m1, .int .i64 m2], .bool ok]) ∧ Below w.heap.size w w') := by
  have hk := hr.out
  unfold admV at hk
  clear hr
  obtain ⟨a, b, ee, f, hm, MB, AB⟩ := adm_bd P hsp hd
  obtain ⟨G, h40⟩ := region_good ke
  have hlo := P.lo
  have hhi := P.hi
  have hds := okS_bd (s := ⟨x1, y1, d1⟩) hsp
  have hd0 : 1 ≤ d1 := hds.1.1
  rw [hm] at hk
  have hk2 : spanV (admL r (a * x1 + b * y1) (ee * x1 + f * y1) (r.q * d1) e ((r.lo, 1), (r.hi, 1))) = (((l1, l2), (m1, m2)), ok) := hk
  clear hk
  have key : ∀ (W : World) (A : Option Addr) (c : Nat), RI W A r.m → Calls Tryz.prog 102 #[.agg #[.int .i64 x1, .int .i64 y1, .int .i64 d1], .slice A r.m.length c, .int .i64 r.q] W fun en w' => en = .returned (.tuple #[.int .i64 (a * x1 + b * y1), .int .i64 (ee * x1 + f * y1), .int .i64 (r.q * d1)]) ∧ Below W.heap.size W w' := fun W A c RM4 => by
    rw [hm] at RM4 ⊢
    exact mapped_val RM4 MB
  have KEY := Lib.hid key
  clear key hm MB
  generalize a * x1 + b * y1 = X at KEY AB hk2
  generalize ee * x1 + f * y1 = Y at KEY AB hk2
  generalize r.q * d1 = D at KEY AB hk2
  obtain ⟨res, hres⟩ : ∃ res, admL r X Y D e ((r.lo, 1), (r.hi, 1)) = res := ⟨_, rfl⟩
  rw [hres] at hk2
  have HRES := Lib.hid hres
  have HK := Lib.hid hk2
  have HP := Lib.hid P
  have HG := Lib.hid G
  have HB := Lib.hid AB
  have HW1 := Lib.hid (whole_rat (n := r.lo) (by omega))
  have HW2 := Lib.hid (whole_rat (n := r.hi) (by omega))
  have hX := AB.X
  have hY := AB.Y
  have hD := AB.D
  have HLO := Lib.hid (ratOf_one (n := r.lo) (by omega))
  have HHI := Lib.hid (ratOf_one (n := r.hi) (by omega))
  clear hres hk2 P G AB ke hsp hds
  go_enter Tryz.func68, Tryz.ntmps68
  go_wp2_with fail
  obtain ⟨V, hV⟩ : ∃ V, ((((w.alloc (.cells #[.slice Ar1 r.m.length cr1, .int .i64 r.q, .int .i64 r.bx, .int .i64 r.by_, .int .i64 r.lo, .int .i64 r.hi, .slice Ar2 r.ns.length cr2, .slice Ar3 r.ls.length cr3] 28)).alloc (.cells #[.slice Ae e.length ce] 26)).alloc (.cells #[.int .i64 x1, .int .i64 y1, .int .i64 d1] 52)).alloc (.cells #[.int .i64 0, .int .i64 0, .int .i64 0, .int .i64 0] 61)) = V := ⟨_, rfl⟩
  have TV : Below w.heap.size w V := by rw [← hV]; exact (by repeat (first | exact bR | refine bO ?_ | refine bA ?_ | refine bS ?_ | refine bD ?_ | refine bN ?_))
  have X0 : V.heap[w.heap.size]? = some (.cells #[.slice Ar1 r.m.length cr1, .int .i64 r.q, .int .i64 r.bx, .int .i64 r.by_, .int .i64 r.lo, .int .i64 r.hi, .slice Ar2 r.ns.length cr2, .slice Ar3 r.ls.length cr3] 28 (0, 0)) := by rw [← hV]; exact ((heap_old_at (by first | (simp; done) | (simp <;> omega))).trans ((heap_old_at (by first | (simp; done) | (simp <;> omega))).trans ((heap_old_at (by first | (simp; done) | (simp <;> omega))).trans (heap_new_at (by first | (simp; done) | (simp <;> omega)) rfl))))
  have X1 : V.heap[w.heap.size + 1]? = some (.cells #[.slice Ae e.length ce] 26 (0, 0)) := by rw [← hV]; exact ((heap_old_at (by first | (simp; done) | (simp <;> omega))).trans ((heap_old_at (by first | (simp; done) | (simp <;> omega))).trans (heap_new_at (by first | (simp; done) | (simp <;> omega)) rfl)))
  have X2 : V.heap[w.heap.size + 1 + 1]? = some (.cells #[.int .i64 x1, .int .i64 y1, .int .i64 d1] 52 (0, 0)) := by rw [← hV]; exact ((heap_old_at (by first | (simp; done) | (simp <;> omega))).trans (heap_new_at (by first | (simp; done) | (simp <;> omega)) rfl))
  have X3 : V.heap[w.heap.size + 1 + 1 + 1]? = some (.cells #[.int .i64 0, .int .i64 0, .int .i64 0, .int .i64 0] 61 (0, 0)) := by rw [← hV]; exact (heap_new_at (by first | (simp; done) | (simp <;> omega)) rfl)
  rw [hV]
  clear hV
  have hbb3 : w.heap.size ≤ w.heap.size + 1 + 1 + 1 := by omega
  generalize w.heap.size + 1 + 1 + 1 = ba3 at X3 hbb3 ⊢
  have hbb2 : w.heap.size ≤ w.heap.size + 1 + 1 := by omega
  generalize w.heap.size + 1 + 1 = ba2 at X2 hbb2 ⊢
  have hbb1 : w.heap.size ≤ w.heap.size + 1 := by omega
  generalize w.heap.size + 1 = ba1 at X1 hbb1 ⊢
  obtain ⟨W0, hW⟩ : ∃ W0, W0 = V := ⟨_, rfl⟩
  rw [← hW]
  have T : Below V.heap.size V W0 := by rw [hW]; exact Below.refl _ _
  clear hW
  have Br := box_below (Lib.hid X0) T
  have XV0 := X0
  clear X0
  have Be := box_below (Lib.hid X1) T
  have XV1 := X1
  clear X1
  have Bs := box_below (Lib.hid X2) T
  have XV2 := X2
  clear X2
  have Bo := box_below (Lib.hid X3) T
  have XV3 := X3
  clear X3
  have s0 : w.heap.size ≤ V.heap.size := TV.size
  obtain ⟨ba0, hba0⟩ : ∃ b, w.heap.size = b := ⟨_, rfl⟩
  rw [hba0] at Br
  try rw [hba0]
  have BrV := box_below (W' := V) (W := V) (Lib.hid XV0) (Below.refl _ _)
  have BeV := Lib.hid XV1
  have BsV := Lib.hid XV2
  have BoV := Lib.hid XV3
  rw [hba0] at BrV
  have hV0 : V.heap.size ≤ W0.heap.size := T.size
  clear XV0 XV1 XV2 XV3
  have Sr := Rr.below (TV.trans (T.mono s0))
  have Se := Re.below (TV.trans (T.mono s0))
  obtain ⟨Brc0, Brc1, Brc2, Brc3, Brc4, Brc5, Brc6, Brc7, Brl⟩ := cb8 Br
  obtain ⟨Bec0, Bel⟩ := cb1 Be
  obtain ⟨Bsc0, Bsc1, Bsc2, Bsl⟩ := cb3 Bs
  obtain ⟨Boc0, Boc1, Boc2, Boc3, Bol⟩ := cb4 Bo
  have Bof0 := frozen_blk (j := 0) Bo.out
  have Bof1 := frozen_blk (j := 1) Bo.out
  have Bof2 := frozen_blk (j := 2) Bo.out
  have Bof3 := frozen_blk (j := 3) Bo.out
  refine wp_region_rel [.pur [] ?s0, .pur [] ?s1, .pur [] ?s2, .pur [] ?s3, .pur [] ?s4, .pur [] ?s5, .pur [] ?s6, .rel [] [7] false (IsAl 61 4), .rel [7, 6] [7, 6] true (IsSt 61)] _ rfl rfl (by kernel_rfl) (by kernel_rfl) ?hst (fun vs => ?walk)
  case' walk =>
    (refine wpRel_pur rfl rfl (fun x => by ((go_wp2); refine relEnd_pur rfl ?_ (by repeat (first | exact bR | refine bO ?_ | refine bA ?_ | refine bS ?_ | refine bD ?_ | refine bN ?_)); simp only [Act.put, List.setIfInBounds_toArray, List.set_cons_succ, List.set_cons_zero]; rfl)) ?_; simp only [Act.put, List.setIfInBounds_toArray, List.set_cons_succ, List.set_cons_zero])
    (refine wpRel_pur rfl rfl (fun x => by ((go_wp2); refine relEnd_pur rfl ?_ (by repeat (first | exact bR | refine bO ?_ | refine bA ?_ | refine bS ?_ | refine bD ?_ | refine bN ?_)); simp only [Act.put, List.setIfInBounds_toArray, List.set_cons_succ, List.set_cons_zero]; rfl)) ?_; simp only [Act.put, List.setIfInBounds_toArray, List.set_cons_succ, List.set_cons_zero])
    (refine wpRel_pur rfl rfl (fun x => by ((go_wp2_with (first | (go_at_call 76; refine (calls_ov (whole_v _ _)).mono ?_; rintro e w' ⟨rfl, x, rfl⟩))); refine relEnd_pur rfl ?_ (by repeat (first | exact bR | refine bO ?_ | refine bA ?_ | refine bS ?_ | refine bD ?_ | refine bN ?_)); simp only [Act.put, List.setIfInBounds_toArray, List.set_cons_succ, List.set_cons_zero]; rfl)) ?_; simp only [Act.put, List.setIfInBounds_toArray, List.set_cons_succ, List.set_cons_zero])
    (refine wpRel_pur rfl rfl (fun x => by ((go_wp2); refine relEnd_pur rfl ?_ (by repeat (first | exact bR | refine bO ?_ | refine bA ?_ | refine bS ?_ | refine bD ?_ | refine bN ?_)); simp only [Act.put, List.setIfInBounds_toArray, List.set_cons_succ, List.set_cons_zero]; rfl)) ?_; simp only [Act.put, List.setIfInBounds_toArray, List.set_cons_succ, List.set_cons_zero])
    (refine wpRel_pur rfl rfl (fun x => by ((go_wp2); refine relEnd_pur rfl ?_ (by repeat (first | exact bR | refine bO ?_ | refine bA ?_ | refine bS ?_ | refine bD ?_ | refine bN ?_)); simp only [Act.put, List.setIfInBounds_toArray, List.set_cons_succ, List.set_cons_zero]; rfl)) ?_; simp only [Act.put, List.setIfInBounds_toArray, List.set_cons_succ, List.set_cons_zero])
    (refine wpRel_pur rfl rfl (fun x => by ((go_wp2_with (first | (go_at_call 76; refine (calls_ov (whole_v _ _)).mono ?_; rintro e w' ⟨rfl, x, rfl⟩))); refine relEnd_pur rfl ?_ (by repeat (first | exact bR | refine bO ?_ | refine bA ?_ | refine bS ?_ | refine bD ?_ | refine bN ?_)); simp only [Act.put, List.setIfInBounds_toArray, List.set_cons_succ, List.set_cons_zero]; rfl)) ?_; simp only [Act.put, List.setIfInBounds_toArray, List.set_cons_succ, List.set_cons_zero])
    (refine wpRel_pur rfl rfl (fun x => by ((go_wp2); refine relEnd_pur rfl ?_ (by repeat (first | exact bR | refine bO ?_ | refine bA ?_ | refine bS ?_ | refine bD ?_ | refine bN ?_)); simp only [Act.put, List.setIfInBounds_toArray, List.set_cons_succ, List.set_cons_zero]; rfl)) ?_; simp only [Act.put, List.setIfInBounds_toArray, List.set_cons_succ, List.set_cons_zero])
    refine wpRel_al #[.int .i64 0, .int .i64 0, .int .i64 0, .int .i64 0] rfl rfl rfl rfl rfl rfl (fun w => by simp [go_sem]) ?_
    simp only [Act.put, List.setIfInBounds_toArray, List.set_cons_succ, List.set_cons_zero]
    refine wpRel_st rfl rfl rfl rfl rfl rfl (by decide) (by decide) rfl rfl (by kernel_rfl) ⟨rfl, by simp [Value.cells, Value.oneCell']⟩ (by repeat (first | exact all_nil | refine all_cons trivial ?_ | refine all_cons isAl_steady ?_ | refine all_cons (isOw_steady (by assumption)) ?_)) ?_
    refine wpRelE_nilB0 (fun W9 K hh => ?_)
    obtain ⟨bw, hen, hbw, hx⟩ := isSt_pur (hh 8) rfl rfl rfl
    simp only [hen]
    have Bw := Lib.hid (show W9.heap[bw]? = some (.cells #[.int .i64 r.lo, .int .i64 1, .int .i64 r.hi, .int .i64 1] 61 (0, 0)) from hx)
    clear hx hen hh
    clear Brc0 Brc1 Brc2 Brc3 Brc4 Brc5 Brc6 Brc7 Bec0 Bsc0 Bsc1 Bsc2 Boc0 Boc1 Boc2 Boc3 Brl Bel Bsl Bol
    clear Bof0 Bof1 Bof2 Bof3
    replace T := T.trans (K.mono T.size)
    replace Br := box_below Br K
    replace Be := box_below Be K
    replace Bs := box_below Bs K
    replace Bo := box_below Bo K
    clear K Sr Se
    have Sr := Rr.below (TV.trans (T.mono s0))
    have Se := Re.below (TV.trans (T.mono s0))
    have hbV : V.heap.size ≤ bw := Nat.le_trans hV0 hbw
    obtain ⟨Brc0, Brc1, Brc2, Brc3, Brc4, Brc5, Brc6, Brc7, Brl⟩ := cb8 Br
    obtain ⟨Bec0, Bel⟩ := cb1 Be
    obtain ⟨Bsc0, Bsc1, Bsc2, Bsl⟩ := cb3 Bs
    obtain ⟨Boc0, Boc1, Boc2, Boc3, Bol⟩ := cb4 Bo
    obtain ⟨Bwc0, Bwc1, Bwc2, Bwc3, Bwl⟩ := cb4 Bw
    have Bof0 := frozen_blk (j := 0) Bo.out
    have Bof1 := frozen_blk (j := 1) Bo.out
    have Bof2 := frozen_blk (j := 2) Bo.out
    have Bof3 := frozen_blk (j := 3) Bo.out
    go_wp2_with fail
    clear Brc0 Brc1 Brc2 Brc3 Brc4 Brc5 Brc6 Brc7 Bec0 Bsc0 Bsc1 Bsc2 Boc0 Boc1 Boc2 Boc3 Bwc0 Bwc1 Bwc2 Bwc3 Brl Bel Bsl Bol Bwl
    clear Bof0 Bof1 Bof2 Bof3
    refine (calls_ov (KEY.out _ _ _ (Sr.mr.below (by repeat (first | exact bR | refine bO ?_ | refine bA ?_ | refine bS ?_ | refine bD ?_ | refine bN ?_))))).mono ?_
    rintro e w' ⟨rfl, x, rfl⟩
    obtain ⟨W1, hW⟩ : ∃ W1, W1 = ov W9 x := ⟨_, rfl⟩
    rw [← hW]
    have K : Below W9.heap.size W9 W1 := by rw [hW]; exact (by repeat (first | exact bR | refine bO ?_ | refine bA ?_ | refine bS ?_ | refine bD ?_ | refine bN ?_))
    clear hW
    replace T := T.trans (K.mono T.size)
    replace Br := box_below Br K
    replace Be := box_below Be K
    replace Bs := box_below Bs K
    replace Bo := box_below Bo K
    replace Bw := box_below Bw K
    clear K Sr Se
    have Sr := Rr.below (TV.trans (T.mono s0))
    have Se := Re.below (TV.trans (T.mono s0))
    obtain ⟨Brc0, Brc1, Brc2, Brc3, Brc4, Brc5, Brc6, Brc7, Brl⟩ := cb8 Br
    obtain ⟨Bec0, Bel⟩ := cb1 Be
    obtain ⟨Bsc0, Bsc1, Bsc2, Bsl⟩ := cb3 Bs
    obtain ⟨Boc0, Boc1, Boc2, Boc3, Bol⟩ := cb4 Bo
    obtain ⟨Bwc0, Bwc1, Bwc2, Bwc3, Bwl⟩ := cb4 Bw
    have Bof0 := frozen_blk (j := 0) Bo.out
    have Bof1 := frozen_blk (j := 1) Bo.out
    have Bof2 := frozen_blk (j := 2) Bo.out
    have Bof3 := frozen_blk (j := 3) Bo.out
    go_wp2
    clear Brc0 Brc1 Brc2 Brc3 Brc4 Brc5 Brc6 Brc7 Bec0 Bsc0 Bsc1 Bsc2 Boc0 Boc1 Boc2 Boc3 Bwc0 Bwc1 Bwc2 Bwc3 Brl Bel Bsl Bol Bwl
    clear Bof0 Bof1 Bof2 Bof3
    clear Br Be Bs Bo Sr Se
    go_loopw [40] (fun i wr => ∃ (k : Nat) (l1 l2 m1 m2 : Int), k ≤ e.length ∧ i = .int .i64 k ∧ Hid (wr.heap[bw]? = some (.cells #[.int .i64 l1, .int .i64 l2, .int .i64 m1, .int .i64 m2] 61 (0, 0))) ∧ Below V.heap.size V wr ∧ Hid (ratioOk l1 l2 = true) ∧ Hid (ratioOk m1 m2 = true) ∧ Hid (admL r X Y D (e.drop k) ((l1, l2), (m1, m2)) = res)) (fun i _ => e.length - (intOf i).toNat)
    case atStart => exact ⟨0, r.lo, 1, r.hi, 1, Nat.zero_le _, rfl, Bw, T, HW1, HW2, HRES⟩
    case round =>
      clear Bw T
      obtain ⟨k, n1, n2, n3, n4, hk, rfl, Bw, T, O1, O2, HA⟩ := hrel
      have s1 := T.size
      have Br := box_below BrV T
      have Be := box_below BeV T
      have Bs := box_below BsV T
      have Bo := box_below BoV T
      have Sr := Rr.below (TV.trans (T.mono s0))
      have Se := Re.below (TV.trans (T.mono s0))
      by_cases hlt : k < e.length
      case neg =>
        obtain rfl : k = e.length := by omega
        have hw : res = some ((n1, n2), (n3, n4)) := by rw [← HA.out, List.drop_length]; rfl
        have hv : (if spanOk n1 n2 n3 n4 = true then ((((n1, n2), (n3, n4)) : Q4), true) else (((0, 0), (0, 0)), false)) = (((l1, l2), (m1, m2)), ok) := by have := HK.out; rw [hw] at this; exact this
        obtain ⟨t, ht⟩ : ∃ t, spanOk n1 n2 n3 n4 = t := ⟨_, rfl⟩
        have HS := Lib.hid ht
        have q1 := ratioOk_bd O1.out
        have q2 := ratioOk_bd O2.out
        rw [ht] at hv
        clear ht hw
        cases t with
        | false =>
          rw [if_neg (by simp)] at hv
          simp only [Prod.mk.injEq] at hv
          obtain ⟨⟨⟨rfl, rfl⟩, rfl, rfl⟩, rfl⟩ := hv
          obtain ⟨Brc0, Brc1, Brc2, Brc3, Brc4, Brc5, Brc6, Brc7, Brl⟩ := cb8 Br
          obtain ⟨Bec0, Bel⟩ := cb1 Be
          obtain ⟨Bsc0, Bsc1, Bsc2, Bsl⟩ := cb3 Bs
          obtain ⟨Boc0, Boc1, Boc2, Boc3, Bol⟩ := cb4 Bo
          obtain ⟨Bwc0, Bwc1, Bwc2, Bwc3, Bwl⟩ := cb4 Bw
          have Bof0 := frozen_blk (j := 0) Bo.out
          have Bof1 := frozen_blk (j := 1) Bo.out
          have Bof2 := frozen_blk (j := 2) Bo.out
          have Bof3 := frozen_blk (j := 3) Bo.out
          have Bwf0 := frozen_blk (j := 0) Bw.out
          have Bwf1 := frozen_blk (j := 1) Bw.out
          have Bwf2 := frozen_blk (j := 2) Bw.out
          have Bwf3 := frozen_blk (j := 3) Bw.out
          go_wp2_with fail
          clear Brc0 Brc1 Brc2 Brc3 Brc4 Brc5 Brc6 Brc7 Bec0 Bsc0 Bsc1 Bsc2 Boc0 Boc1 Boc2 Boc3 Bwc0 Bwc1 Bwc2 Bwc3 Brl Bel Bsl Bol Bwl
          clear Bof0 Bof1 Bof2 Bof3
          clear Bwf0 Bwf1 Bwf2 Bwf3
          refine (calls_ov (impl_SpanOk_eq HS.out (by omega) (by omega) (by omega) (by omega))).mono ?_
          rintro e w' ⟨rfl, x, rfl⟩
          obtain ⟨W102, hW⟩ : ∃ W102, W102 = ov wr x := ⟨_, rfl⟩
          rw [← hW]
          have K : Below wr.heap.size wr W102 := by rw [hW]; exact (by repeat (first | exact bR | refine bO ?_ | refine bA ?_ | refine bS ?_ | refine bD ?_ | refine bN ?_))
          clear hW
          replace T := T.trans (K.mono T.size)
          replace Br := box_below Br K
          replace Be := box_below Be K
          replace Bs := box_below Bs K
          replace Bo := box_below Bo K
          replace Bw := box_below Bw K
          clear K Sr Se
          have Sr := Rr.below (TV.trans (T.mono s0))
          have Se := Re.below (TV.trans (T.mono s0))
          obtain ⟨Brc0, Brc1, Brc2, Brc3, Brc4, Brc5, Brc6, Brc7, Brl⟩ := cb8 Br
          obtain ⟨Bec0, Bel⟩ := cb1 Be
          obtain ⟨Bsc0, Bsc1, Bsc2, Bsl⟩ := cb3 Bs
          obtain ⟨Boc0, Boc1, Boc2, Boc3, Bol⟩ := cb4 Bo
          obtain ⟨Bwc0, Bwc1, Bwc2, Bwc3, Bwl⟩ := cb4 Bw
          have Bof0 := frozen_blk (j := 0) Bo.out
          have Bof1 := frozen_blk (j := 1) Bo.out
          have Bof2 := frozen_blk (j := 2) Bo.out
          have Bof3 := frozen_blk (j := 3) Bo.out
          have Bwf0 := frozen_blk (j := 0) Bw.out
          have Bwf1 := frozen_blk (j := 1) Bw.out
          have Bwf2 := frozen_blk (j := 2) Bw.out
          have Bwf3 := frozen_blk (j := 3) Bw.out
          go_wp2
          refine bodyPost_ret (v := .tuple #[.agg #[.int .i64 0, .int .i64 0, .int .i64 0, .int .i64 0], .bool false]) (by simp [results, Tryz.results68, go_sem, Boc0, Boc1, Boc2, Boc3, Bol]) rfl ⟨rfl, ?_⟩
          exact (by repeat (first | exact TV.trans (T.mono s0) | refine bO ?_ | refine bA ?_ | refine bS ?_ | refine bD ?_ | refine bN ?_))
        | true =>
          rw [if_pos rfl] at hv
          simp only [Prod.mk.injEq] at hv
          obtain ⟨⟨⟨rfl, rfl⟩, rfl, rfl⟩, rfl⟩ := hv
          obtain ⟨Brc0, Brc1, Brc2, Brc3, Brc4, Brc5, Brc6, Brc7, Brl⟩ := cb8 Br
          obtain ⟨Bec0, Bel⟩ := cb1 Be
          obtain ⟨Bsc0, Bsc1, Bsc2, Bsl⟩ := cb3 Bs
          obtain ⟨Boc0, Boc1, Boc2, Boc3, Bol⟩ := cb4 Bo
          obtain ⟨Bwc0, Bwc1, Bwc2, Bwc3, Bwl⟩ := cb4 Bw
          have Bof0 := frozen_blk (j := 0) Bo.out
          have Bof1 := frozen_blk (j := 1) Bo.out
          have Bof2 := frozen_blk (j := 2) Bo.out
          have Bof3 := frozen_blk (j := 3) Bo.out
          have Bwf0 := frozen_blk (j := 0) Bw.out
          have Bwf1 := frozen_blk (j := 1) Bw.out
          have Bwf2 := frozen_blk (j := 2) Bw.out
          have Bwf3 := frozen_blk (j := 3) Bw.out
          go_wp2_with fail
          clear Brc0 Brc1 Brc2 Brc3 Brc4 Brc5 Brc6 Brc7 Bec0 Bsc0 Bsc1 Bsc2 Boc0 Boc1 Boc2 Boc3 Bwc0 Bwc1 Bwc2 Bwc3 Brl Bel Bsl Bol Bwl
          clear Bof0 Bof1 Bof2 Bof3
          clear Bwf0 Bwf1 Bwf2 Bwf3
          refine (calls_ov (impl_SpanOk_eq HS.out (by omega) (by omega) (by omega) (by omega))).mono ?_
          rintro e w' ⟨rfl, x, rfl⟩
          obtain ⟨W103, hW⟩ : ∃ W103, W103 = ov wr x := ⟨_, rfl⟩
          rw [← hW]
          have K : Below wr.heap.size wr W103 := by rw [hW]; exact (by repeat (first | exact bR | refine bO ?_ | refine bA ?_ | refine bS ?_ | refine bD ?_ | refine bN ?_))
          clear hW
          replace T := T.trans (K.mono T.size)
          replace Br := box_below Br K
          replace Be := box_below Be K
          replace Bs := box_below Bs K
          replace Bo := box_below Bo K
          replace Bw := box_below Bw K
          clear K Sr Se
          have Sr := Rr.below (TV.trans (T.mono s0))
          have Se := Re.below (TV.trans (T.mono s0))
          obtain ⟨Brc0, Brc1, Brc2, Brc3, Brc4, Brc5, Brc6, Brc7, Brl⟩ := cb8 Br
          obtain ⟨Bec0, Bel⟩ := cb1 Be
          obtain ⟨Bsc0, Bsc1, Bsc2, Bsl⟩ := cb3 Bs
          obtain ⟨Boc0, Boc1, Boc2, Boc3, Bol⟩ := cb4 Bo
          obtain ⟨Bwc0, Bwc1, Bwc2, Bwc3, Bwl⟩ := cb4 Bw
          have Bof0 := frozen_blk (j := 0) Bo.out
          have Bof1 := frozen_blk (j := 1) Bo.out
          have Bof2 := frozen_blk (j := 2) Bo.out
          have Bof3 := frozen_blk (j := 3) Bo.out
          have Bwf0 := frozen_blk (j := 0) Bw.out
          have Bwf1 := frozen_blk (j := 1) Bw.out
          have Bwf2 := frozen_blk (j := 2) Bw.out
          have Bwf3 := frozen_blk (j := 3) Bw.out
          go_wp2
          refine bodyPost_ret (v := .tuple #[.agg #[.int .i64 n1, .int .i64 n2, .int .i64 n3, .int .i64 n4], .bool true]) (by simp [results, Tryz.results68, go_sem, Boc0, Boc1, Boc2, Boc3, Bol]) rfl ⟨rfl, ?_⟩
          exact (by repeat (first | exact TV.trans (T.mono s0) | refine bO ?_ | refine bA ?_ | refine bS ?_ | refine bD ?_ | refine bN ?_))
      obtain ⟨g0, rfl, hg0, z0, z1, z2⟩ := Se.at_ hlt
      have kh := HG.out _ (List.getElem_mem hlt)
      have HC := Lib.hid (admL_cons (r := r) (X := X) (Y := Y) (D := D) hlt ((n1, n2), (n3, n4)))
      obtain ⟨p1, p2, p3⟩ := top_bd HB.out kh
      obtain ⟨hh, hhe⟩ : ∃ hh, hh = e[k] := ⟨_, rfl⟩
      rw [← hhe] at z0 z1 z2 kh HC p1 p2 p3
      clear hhe
      have bs := slope_le HP.out kh
      obtain ⟨ps1, ps2⟩ := slope_bd HP.out kh
      obtain ⟨n, hn⟩ : ∃ n, slopeI r hh = n := ⟨_, rfl⟩
      have HN := Lib.hid hn
      have HTP := Lib.hid (show admTop X Y D hh = hh.c * D - hh.a * X - hh.b * Y from rfl)
      rw [hn] at bs
      have q1 := ratioOk_bd O1.out
      have q2 := ratioOk_bd O2.out
      have HCS : Hid (admStep r X Y D ((n1, n2), (n3, n4)) hh = if 0 < n then some ((n1, n2), ratMin n3 n4 (ratOf (hh.c * D - hh.a * X - hh.b * Y) (D * n)).1 (ratOf (hh.c * D - hh.a * X - hh.b * Y) (D * n)).2) else if n < 0 then some (ratMax n1 n2 (ratOf (-(hh.c * D - hh.a * X - hh.b * Y)) (-D * n)).1 (ratOf (-(hh.c * D - hh.a * X - hh.b * Y)) (-D * n)).2, (n3, n4)) else if hh.c * D - hh.a * X - hh.b * Y < 0 then none else some ((n1, n2), (n3, n4))) := Lib.hid (by
        unfold admStep
        rw [hn, HTP.out])
      clear hn
      rcases Int.lt_trichotomy n 0 with hn | hn | hn
      · skip
        have hDn := mul_bd (x := D) (y := n) (A := 2000000) (B := 10000000) (by omega) (by omega)
        have hDp : 0 < -D * n := by exact Int.mul_pos_of_neg_of_neg (by omega) hn
        have hDq : -D * n ≤ 1000000000000000 := by have : -D * n = -(D * n) := Int.neg_mul _ _; omega
        obtain ⟨⟨v1, v2⟩, hv⟩ : ∃ v, ratOf (-(hh.c * D - hh.a * X - hh.b * Y)) (-D * n) = v := ⟨_, rfl⟩
        have ov1 : ratioOk v1 v2 = true := by have := ratOf_valid (n := -(hh.c * D - hh.a * X - hh.b * Y)) (d := -D * n) (by omega) ⟨hDp, hDq⟩; rw [hv] at this; exact this
        have HRO := Lib.hid hv
        have OV := Lib.hid ov1
        obtain ⟨⟨u1, u2⟩, hu⟩ : ∃ v, ratMax n1 n2 v1 v2 = v := ⟨_, rfl⟩
        have ou1 : ratioOk u1 u2 = true := by have := ratMax_ok O1.out OV.out; rw [hu] at this; exact this
        have HM := Lib.hid hu
        have OU := Lib.hid ou1
        have q3 := ratioOk_bd ov1
        have HS2 : Hid (admL r X Y D (e.drop (k + 1)) (((u1, u2), (n3, n4))) = res) := Lib.hid (by
          have h1 := HA.out
          rw [HC.out] at h1
          rw [HCS.out] at h1
          rw [if_neg (by omega), if_pos hn, hv] at h1
          simp only [hu] at h1
          exact h1)
        clear hv ov1 hu ou1
        obtain ⟨Brc0, Brc1, Brc2, Brc3, Brc4, Brc5, Brc6, Brc7, Brl⟩ := cb8 Br
        obtain ⟨Bec0, Bel⟩ := cb1 Be
        obtain ⟨Bsc0, Bsc1, Bsc2, Bsl⟩ := cb3 Bs
        obtain ⟨Boc0, Boc1, Boc2, Boc3, Bol⟩ := cb4 Bo
        obtain ⟨Bwc0, Bwc1, Bwc2, Bwc3, Bwl⟩ := cb4 Bw
        have Bof0 := frozen_blk (j := 0) Bo.out
        have Bof1 := frozen_blk (j := 1) Bo.out
        have Bof2 := frozen_blk (j := 2) Bo.out
        have Bof3 := frozen_blk (j := 3) Bo.out
        have Bwf0 := frozen_blk (j := 0) Bw.out
        have Bwf1 := frozen_blk (j := 1) Bw.out
        have Bwf2 := frozen_blk (j := 2) Bw.out
        have Bwf3 := frozen_blk (j := 3) Bw.out
        go_wp2_with fail
        clear Brc0 Brc1 Brc2 Brc3 Brc4 Brc5 Brc6 Brc7 Bec0 Bsc0 Bsc1 Bsc2 Boc0 Boc1 Boc2 Boc3 Bwc0 Bwc1 Bwc2 Bwc3 Brl Bel Bsl Bol Bwl
        clear Bof0 Bof1 Bof2 Bof3
        clear Bwf0 Bwf1 Bwf2 Bwf3
        obtain ⟨bh, hbx⟩ : ∃ b, b = wr.heap.size := ⟨_, rfl⟩
        rw [← hbx]
        obtain ⟨W104, hW⟩ : ∃ W, W = wr.alloc (.cells #[.int .i64 hh.a, .int .i64 hh.b, .int .i64 hh.c] 44) := ⟨_, rfl⟩
        rw [← hW]
        have K : Below wr.heap.size wr W104 := by rw [hW]; exact (by repeat (first | exact bR | refine bO ?_ | refine bA ?_ | refine bS ?_ | refine bD ?_ | refine bN ?_))
        have Bh := Lib.hid (show W104.heap[bh]? = some (.cells #[.int .i64 hh.a, .int .i64 hh.b, .int .i64 hh.c] 44 (0, 0)) by rw [hW, hbx]; exact heap_alloc_new _ _)
        clear hW hbx
        replace T := T.trans (K.mono T.size)
        replace Br := box_below Br K
        replace Be := box_below Be K
        replace Bs := box_below Bs K
        replace Bo := box_below Bo K
        replace Bw := box_below Bw K
        clear K Sr Se
        have Sr := Rr.below (TV.trans (T.mono s0))
        have Se := Re.below (TV.trans (T.mono s0))
        obtain ⟨Brc0, Brc1, Brc2, Brc3, Brc4, Brc5, Brc6, Brc7, Brl⟩ := cb8 Br
        obtain ⟨Bec0, Bel⟩ := cb1 Be
        obtain ⟨Bsc0, Bsc1, Bsc2, Bsl⟩ := cb3 Bs
        obtain ⟨Boc0, Boc1, Boc2, Boc3, Bol⟩ := cb4 Bo
        obtain ⟨Bwc0, Bwc1, Bwc2, Bwc3, Bwl⟩ := cb4 Bw
        obtain ⟨Bhc0, Bhc1, Bhc2, Bhl⟩ := cb3 Bh
        have Bof0 := frozen_blk (j := 0) Bo.out
        have Bof1 := frozen_blk (j := 1) Bo.out
        have Bof2 := frozen_blk (j := 2) Bo.out
        have Bof3 := frozen_blk (j := 3) Bo.out
        have Bwf0 := frozen_blk (j := 0) Bw.out
        have Bwf1 := frozen_blk (j := 1) Bw.out
        have Bwf2 := frozen_blk (j := 2) Bw.out
        have Bwf3 := frozen_blk (j := 3) Bw.out
        go_wp2_with fail
        clear Brc0 Brc1 Brc2 Brc3 Brc4 Brc5 Brc6 Brc7 Bec0 Bsc0 Bsc1 Bsc2 Boc0 Boc1 Boc2 Boc3 Bwc0 Bwc1 Bwc2 Bwc3 Bhc0 Bhc1 Bhc2 Brl Bel Bsl Bol Bwl Bhl
        clear Bof0 Bof1 Bof2 Bof3
        clear Bwf0 Bwf1 Bwf2 Bwf3
        refine (calls_ov (slope_eq (slope_bd HP.out kh) HN)).mono ?_
        rintro e w' ⟨rfl, x, rfl⟩
        obtain ⟨W105, hW⟩ : ∃ W105, W105 = ov W104 x := ⟨_, rfl⟩
        rw [← hW]
        have K : Below W104.heap.size W104 W105 := by rw [hW]; exact (by repeat (first | exact bR | refine bO ?_ | refine bA ?_ | refine bS ?_ | refine bD ?_ | refine bN ?_))
        clear hW
        replace T := T.trans (K.mono T.size)
        replace Br := box_below Br K
        replace Be := box_below Be K
        replace Bs := box_below Bs K
        replace Bo := box_below Bo K
        replace Bw := box_below Bw K
        replace Bh := box_below Bh K
        clear K Sr Se
        have Sr := Rr.below (TV.trans (T.mono s0))
        have Se := Re.below (TV.trans (T.mono s0))
        obtain ⟨Brc0, Brc1, Brc2, Brc3, Brc4, Brc5, Brc6, Brc7, Brl⟩ := cb8 Br
        obtain ⟨Bec0, Bel⟩ := cb1 Be
        obtain ⟨Bsc0, Bsc1, Bsc2, Bsl⟩ := cb3 Bs
        obtain ⟨Boc0, Boc1, Boc2, Boc3, Bol⟩ := cb4 Bo
        obtain ⟨Bwc0, Bwc1, Bwc2, Bwc3, Bwl⟩ := cb4 Bw
        obtain ⟨Bhc0, Bhc1, Bhc2, Bhl⟩ := cb3 Bh
        have Bof0 := frozen_blk (j := 0) Bo.out
        have Bof1 := frozen_blk (j := 1) Bo.out
        have Bof2 := frozen_blk (j := 2) Bo.out
        have Bof3 := frozen_blk (j := 3) Bo.out
        have Bwf0 := frozen_blk (j := 0) Bw.out
        have Bwf1 := frozen_blk (j := 1) Bw.out
        have Bwf2 := frozen_blk (j := 2) Bw.out
        have Bwf3 := frozen_blk (j := 3) Bw.out
        go_wp2_with fail
        clear Brc0 Brc1 Brc2 Brc3 Brc4 Brc5 Brc6 Brc7 Bec0 Bsc0 Bsc1 Bsc2 Boc0 Boc1 Boc2 Boc3 Bwc0 Bwc1 Bwc2 Bwc3 Bhc0 Bhc1 Bhc2 Brl Bel Bsl Bol Bwl Bhl
        clear Bof0 Bof1 Bof2 Bof3
        clear Bwf0 Bwf1 Bwf2 Bwf3
        obtain ⟨Brc0, Brc1, Brc2, Brc3, Brc4, Brc5, Brc6, Brc7, Brl⟩ := cb8 Br
        obtain ⟨Bec0, Bel⟩ := cb1 Be
        obtain ⟨Bsc0, Bsc1, Bsc2, Bsl⟩ := cb3 Bs
        obtain ⟨Boc0, Boc1, Boc2, Boc3, Bol⟩ := cb4 Bo
        obtain ⟨Bwc0, Bwc1, Bwc2, Bwc3, Bwl⟩ := cb4 Bw
        obtain ⟨Bhc0, Bhc1, Bhc2, Bhl⟩ := cb3 Bh
        have Bof0 := frozen_blk (j := 0) Bo.out
        have Bof1 := frozen_blk (j := 1) Bo.out
        have Bof2 := frozen_blk (j := 2) Bo.out
        have Bof3 := frozen_blk (j := 3) Bo.out
        have Bwf0 := frozen_blk (j := 0) Bw.out
        have Bwf1 := frozen_blk (j := 1) Bw.out
        have Bwf2 := frozen_blk (j := 2) Bw.out
        have Bwf3 := frozen_blk (j := 3) Bw.out
        (refine wp_region_calm_tail 11 (by kernel_rfl) (by kernel_rfl) ?_; simp only [List.take_succ_cons, List.take_zero, List.drop_succ_cons, List.drop_zero]; (repeat (go_big_quiet_step (first | (go_at_call 36; exact calm_below (impl_RatioOf_eq HRO (by omega) (by omega))) | (go_at_call 105; exact calm_below (impl_RatioMax_eq O1.out OV.out HM))))); refine wpQuiet_nil ?_; rintro _ ⟨y, rfl⟩)
        clear Brc0 Brc1 Brc2 Brc3 Brc4 Brc5 Brc6 Brc7 Bec0 Bsc0 Bsc1 Bsc2 Boc0 Boc1 Boc2 Boc3 Bwc0 Bwc1 Bwc2 Bwc3 Bhc0 Bhc1 Bhc2 Brl Bel Bsl Bol Bwl Bhl
        clear Bof0 Bof1 Bof2 Bof3
        clear Bwf0 Bwf1 Bwf2 Bwf3
        obtain ⟨W7, hW⟩ : ∃ W7, W7 = ov W105 y := ⟨_, rfl⟩
        rw [← hW]
        have K : Below W105.heap.size W105 W7 := by rw [hW]; exact (by repeat (first | exact bR | refine bO ?_ | refine bA ?_ | refine bS ?_ | refine bD ?_ | refine bN ?_))
        clear hW
        replace T := T.trans (K.mono T.size)
        replace Br := box_below Br K
        replace Be := box_below Be K
        replace Bs := box_below Bs K
        replace Bo := box_below Bo K
        replace Bw := box_below Bw K
        replace Bh := box_below Bh K
        clear K Sr Se
        have Sr := Rr.below (TV.trans (T.mono s0))
        have Se := Re.below (TV.trans (T.mono s0))
        obtain ⟨Brc0, Brc1, Brc2, Brc3, Brc4, Brc5, Brc6, Brc7, Brl⟩ := cb8 Br
        obtain ⟨Bec0, Bel⟩ := cb1 Be
        obtain ⟨Bsc0, Bsc1, Bsc2, Bsl⟩ := cb3 Bs
        obtain ⟨Boc0, Boc1, Boc2, Boc3, Bol⟩ := cb4 Bo
        obtain ⟨Bwc0, Bwc1, Bwc2, Bwc3, Bwl⟩ := cb4 Bw
        obtain ⟨Bhc0, Bhc1, Bhc2, Bhl⟩ := cb3 Bh
        have Bof0 := frozen_blk (j := 0) Bo.out
        have Bof1 := frozen_blk (j := 1) Bo.out
        have Bof2 := frozen_blk (j := 2) Bo.out
        have Bof3 := frozen_blk (j := 3) Bo.out
        have Bwf0 := frozen_blk (j := 0) Bw.out
        have Bwf1 := frozen_blk (j := 1) Bw.out
        have Bwf2 := frozen_blk (j := 2) Bw.out
        have Bwf3 := frozen_blk (j := 3) Bw.out
        go_wp2
        go_roundw
        case rel => exact ⟨k + 1, u1, u2, n3, n4, by omega, by go_num, Lib.hid (set4_01 Bw.out), (T.setCell hbV _).setCell hbV _, OU, O2, HS2⟩
        case measure => simp [intOf] <;> omega
      · subst hn
        by_cases htop : (hh.c * D - hh.a * X - hh.b * Y) < 0
        · have hw : res = none := by
            have h1 := HA.out
            rw [HC.out] at h1
            rw [HCS.out] at h1
            rw [if_neg (by omega), if_neg (by omega), if_pos htop] at h1
            exact h1.symm
          have hv : spanV none = (((l1, l2), (m1, m2)), ok) := by rw [← hw]; exact HK.out
          simp only [spanV, Prod.mk.injEq] at hv
          obtain ⟨⟨⟨rfl, rfl⟩, rfl, rfl⟩, rfl⟩ := hv
          clear hw
          obtain ⟨Brc0, Brc1, Brc2, Brc3, Brc4, Brc5, Brc6, Brc7, Brl⟩ := cb8 Br
          obtain ⟨Bec0, Bel⟩ := cb1 Be
          obtain ⟨Bsc0, Bsc1, Bsc2, Bsl⟩ := cb3 Bs
          obtain ⟨Boc0, Boc1, Boc2, Boc3, Bol⟩ := cb4 Bo
          obtain ⟨Bwc0, Bwc1, Bwc2, Bwc3, Bwl⟩ := cb4 Bw
          have Bof0 := frozen_blk (j := 0) Bo.out
          have Bof1 := frozen_blk (j := 1) Bo.out
          have Bof2 := frozen_blk (j := 2) Bo.out
          have Bof3 := frozen_blk (j := 3) Bo.out
          have Bwf0 := frozen_blk (j := 0) Bw.out
          have Bwf1 := frozen_blk (j := 1) Bw.out
          have Bwf2 := frozen_blk (j := 2) Bw.out
          have Bwf3 := frozen_blk (j := 3) Bw.out
          go_wp2_with fail
          clear Brc0 Brc1 Brc2 Brc3 Brc4 Brc5 Brc6 Brc7 Bec0 Bsc0 Bsc1 Bsc2 Boc0 Boc1 Boc2 Boc3 Bwc0 Bwc1 Bwc2 Bwc3 Brl Bel Bsl Bol Bwl
          clear Bof0 Bof1 Bof2 Bof3
          clear Bwf0 Bwf1 Bwf2 Bwf3
          obtain ⟨bh, hbx⟩ : ∃ b, b = wr.heap.size := ⟨_, rfl⟩
          rw [← hbx]
          obtain ⟨W106, hW⟩ : ∃ W, W = wr.alloc (.cells #[.int .i64 hh.a, .int .i64 hh.b, .int .i64 hh.c] 44) := ⟨_, rfl⟩
          rw [← hW]
          have K : Below wr.heap.size wr W106 := by rw [hW]; exact (by repeat (first | exact bR | refine bO ?_ | refine bA ?_ | refine bS ?_ | refine bD ?_ | refine bN ?_))
          have Bh := Lib.hid (show W106.heap[bh]? = some (.cells #[.int .i64 hh.a, .int .i64 hh.b, .int .i64 hh.c] 44 (0, 0)) by rw [hW, hbx]; exact heap_alloc_new _ _)
          clear hW hbx
          replace T := T.trans (K.mono T.size)
          replace Br := box_below Br K
          replace Be := box_below Be K
          replace Bs := box_below Bs K
          replace Bo := box_below Bo K
          replace Bw := box_below Bw K
          clear K Sr Se
          have Sr := Rr.below (TV.trans (T.mono s0))
          have Se := Re.below (TV.trans (T.mono s0))
          obtain ⟨Brc0, Brc1, Brc2, Brc3, Brc4, Brc5, Brc6, Brc7, Brl⟩ := cb8 Br
          obtain ⟨Bec0, Bel⟩ := cb1 Be
          obtain ⟨Bsc0, Bsc1, Bsc2, Bsl⟩ := cb3 Bs
          obtain ⟨Boc0, Boc1, Boc2, Boc3, Bol⟩ := cb4 Bo
          obtain ⟨Bwc0, Bwc1, Bwc2, Bwc3, Bwl⟩ := cb4 Bw
          obtain ⟨Bhc0, Bhc1, Bhc2, Bhl⟩ := cb3 Bh
          have Bof0 := frozen_blk (j := 0) Bo.out
          have Bof1 := frozen_blk (j := 1) Bo.out
          have Bof2 := frozen_blk (j := 2) Bo.out
          have Bof3 := frozen_blk (j := 3) Bo.out
          have Bwf0 := frozen_blk (j := 0) Bw.out
          have Bwf1 := frozen_blk (j := 1) Bw.out
          have Bwf2 := frozen_blk (j := 2) Bw.out
          have Bwf3 := frozen_blk (j := 3) Bw.out
          go_wp2_with fail
          clear Brc0 Brc1 Brc2 Brc3 Brc4 Brc5 Brc6 Brc7 Bec0 Bsc0 Bsc1 Bsc2 Boc0 Boc1 Boc2 Boc3 Bwc0 Bwc1 Bwc2 Bwc3 Bhc0 Bhc1 Bhc2 Brl Bel Bsl Bol Bwl Bhl
          clear Bof0 Bof1 Bof2 Bof3
          clear Bwf0 Bwf1 Bwf2 Bwf3
          refine (calls_ov (slope_eq (slope_bd HP.out kh) HN)).mono ?_
          rintro e w' ⟨rfl, x, rfl⟩
          obtain ⟨W107, hW⟩ : ∃ W107, W107 = ov W106 x := ⟨_, rfl⟩
          rw [← hW]
          have K : Below W106.heap.size W106 W107 := by rw [hW]; exact (by repeat (first | exact bR | refine bO ?_ | refine bA ?_ | refine bS ?_ | refine bD ?_ | refine bN ?_))
          clear hW
          replace T := T.trans (K.mono T.size)
          replace Br := box_below Br K
          replace Be := box_below Be K
          replace Bs := box_below Bs K
          replace Bo := box_below Bo K
          replace Bw := box_below Bw K
          replace Bh := box_below Bh K
          clear K Sr Se
          have Sr := Rr.below (TV.trans (T.mono s0))
          have Se := Re.below (TV.trans (T.mono s0))
          obtain ⟨Brc0, Brc1, Brc2, Brc3, Brc4, Brc5, Brc6, Brc7, Brl⟩ := cb8 Br
          obtain ⟨Bec0, Bel⟩ := cb1 Be
          obtain ⟨Bsc0, Bsc1, Bsc2, Bsl⟩ := cb3 Bs
          obtain ⟨Boc0, Boc1, Boc2, Boc3, Bol⟩ := cb4 Bo
          obtain ⟨Bwc0, Bwc1, Bwc2, Bwc3, Bwl⟩ := cb4 Bw
          obtain ⟨Bhc0, Bhc1, Bhc2, Bhl⟩ := cb3 Bh
          have Bof0 := frozen_blk (j := 0) Bo.out
          have Bof1 := frozen_blk (j := 1) Bo.out
          have Bof2 := frozen_blk (j := 2) Bo.out
          have Bof3 := frozen_blk (j := 3) Bo.out
          have Bwf0 := frozen_blk (j := 0) Bw.out
          have Bwf1 := frozen_blk (j := 1) Bw.out
          have Bwf2 := frozen_blk (j := 2) Bw.out
          have Bwf3 := frozen_blk (j := 3) Bw.out
          go_wp2
          refine bodyPost_ret (v := .tuple #[.agg #[.int .i64 0, .int .i64 0, .int .i64 0, .int .i64 0], .bool false]) (by simp [results, Tryz.results68, go_sem, Boc0, Boc1, Boc2, Boc3, Bol]) rfl ⟨rfl, ?_⟩
          exact (by repeat (first | exact TV.trans (T.mono s0) | refine bO ?_ | refine bA ?_ | refine bS ?_ | refine bD ?_ | refine bN ?_))
        · have HS2 : Hid (admL r X Y D (e.drop (k + 1)) ((n1, n2), (n3, n4)) = res) := Lib.hid (by
            have h1 := HA.out
            rw [HC.out] at h1
            rw [HCS.out] at h1
            rw [if_neg (by omega), if_neg (by omega), if_neg htop] at h1
            exact h1)
          obtain ⟨Brc0, Brc1, Brc2, Brc3, Brc4, Brc5, Brc6, Brc7, Brl⟩ := cb8 Br
          obtain ⟨Bec0, Bel⟩ := cb1 Be
          obtain ⟨Bsc0, Bsc1, Bsc2, Bsl⟩ := cb3 Bs
          obtain ⟨Boc0, Boc1, Boc2, Boc3, Bol⟩ := cb4 Bo
          obtain ⟨Bwc0, Bwc1, Bwc2, Bwc3, Bwl⟩ := cb4 Bw
          have Bof0 := frozen_blk (j := 0) Bo.out
          have Bof1 := frozen_blk (j := 1) Bo.out
          have Bof2 := frozen_blk (j := 2) Bo.out
          have Bof3 := frozen_blk (j := 3) Bo.out
          have Bwf0 := frozen_blk (j := 0) Bw.out
          have Bwf1 := frozen_blk (j := 1) Bw.out
          have Bwf2 := frozen_blk (j := 2) Bw.out
          have Bwf3 := frozen_blk (j := 3) Bw.out
          go_wp2_with fail
          clear Brc0 Brc1 Brc2 Brc3 Brc4 Brc5 Brc6 Brc7 Bec0 Bsc0 Bsc1 Bsc2 Boc0 Boc1 Boc2 Boc3 Bwc0 Bwc1 Bwc2 Bwc3 Brl Bel Bsl Bol Bwl
          clear Bof0 Bof1 Bof2 Bof3
          clear Bwf0 Bwf1 Bwf2 Bwf3
          obtain ⟨bh, hbx⟩ : ∃ b, b = wr.heap.size := ⟨_, rfl⟩
          rw [← hbx]
          obtain ⟨W108, hW⟩ : ∃ W, W = wr.alloc (.cells #[.int .i64 hh.a, .int .i64 hh.b, .int .i64 hh.c] 44) := ⟨_, rfl⟩
          rw [← hW]
          have K : Below wr.heap.size wr W108 := by rw [hW]; exact (by repeat (first | exact bR | refine bO ?_ | refine bA ?_ | refine bS ?_ | refine bD ?_ | refine bN ?_))
          have Bh := Lib.hid (show W108.heap[bh]? = some (.cells #[.int .i64 hh.a, .int .i64 hh.b, .int .i64 hh.c] 44 (0, 0)) by rw [hW, hbx]; exact heap_alloc_new _ _)
          clear hW hbx
          replace T := T.trans (K.mono T.size)
          replace Br := box_below Br K
          replace Be := box_below Be K
          replace Bs := box_below Bs K
          replace Bo := box_below Bo K
          replace Bw := box_below Bw K
          clear K Sr Se
          have Sr := Rr.below (TV.trans (T.mono s0))
          have Se := Re.below (TV.trans (T.mono s0))
          obtain ⟨Brc0, Brc1, Brc2, Brc3, Brc4, Brc5, Brc6, Brc7, Brl⟩ := cb8 Br
          obtain ⟨Bec0, Bel⟩ := cb1 Be
          obtain ⟨Bsc0, Bsc1, Bsc2, Bsl⟩ := cb3 Bs
          obtain ⟨Boc0, Boc1, Boc2, Boc3, Bol⟩ := cb4 Bo
          obtain ⟨Bwc0, Bwc1, Bwc2, Bwc3, Bwl⟩ := cb4 Bw
          obtain ⟨Bhc0, Bhc1, Bhc2, Bhl⟩ := cb3 Bh
          have Bof0 := frozen_blk (j := 0) Bo.out
          have Bof1 := frozen_blk (j := 1) Bo.out
          have Bof2 := frozen_blk (j := 2) Bo.out
          have Bof3 := frozen_blk (j := 3) Bo.out
          have Bwf0 := frozen_blk (j := 0) Bw.out
          have Bwf1 := frozen_blk (j := 1) Bw.out
          have Bwf2 := frozen_blk (j := 2) Bw.out
          have Bwf3 := frozen_blk (j := 3) Bw.out
          go_wp2_with fail
          clear Brc0 Brc1 Brc2 Brc3 Brc4 Brc5 Brc6 Brc7 Bec0 Bsc0 Bsc1 Bsc2 Boc0 Boc1 Boc2 Boc3 Bwc0 Bwc1 Bwc2 Bwc3 Bhc0 Bhc1 Bhc2 Brl Bel Bsl Bol Bwl Bhl
          clear Bof0 Bof1 Bof2 Bof3
          clear Bwf0 Bwf1 Bwf2 Bwf3
          refine (calls_ov (slope_eq (slope_bd HP.out kh) HN)).mono ?_
          rintro e w' ⟨rfl, x, rfl⟩
          obtain ⟨W109, hW⟩ : ∃ W109, W109 = ov W108 x := ⟨_, rfl⟩
          rw [← hW]
          have K : Below W108.heap.size W108 W109 := by rw [hW]; exact (by repeat (first | exact bR | refine bO ?_ | refine bA ?_ | refine bS ?_ | refine bD ?_ | refine bN ?_))
          clear hW
          replace T := T.trans (K.mono T.size)
          replace Br := box_below Br K
          replace Be := box_below Be K
          replace Bs := box_below Bs K
          replace Bo := box_below Bo K
          replace Bw := box_below Bw K
          replace Bh := box_below Bh K
          clear K Sr Se
          have Sr := Rr.below (TV.trans (T.mono s0))
          have Se := Re.below (TV.trans (T.mono s0))
          obtain ⟨Brc0, Brc1, Brc2, Brc3, Brc4, Brc5, Brc6, Brc7, Brl⟩ := cb8 Br
          obtain ⟨Bec0, Bel⟩ := cb1 Be
          obtain ⟨Bsc0, Bsc1, Bsc2, Bsl⟩ := cb3 Bs
          obtain ⟨Boc0, Boc1, Boc2, Boc3, Bol⟩ := cb4 Bo
          obtain ⟨Bwc0, Bwc1, Bwc2, Bwc3, Bwl⟩ := cb4 Bw
          obtain ⟨Bhc0, Bhc1, Bhc2, Bhl⟩ := cb3 Bh
          have Bof0 := frozen_blk (j := 0) Bo.out
          have Bof1 := frozen_blk (j := 1) Bo.out
          have Bof2 := frozen_blk (j := 2) Bo.out
          have Bof3 := frozen_blk (j := 3) Bo.out
          have Bwf0 := frozen_blk (j := 0) Bw.out
          have Bwf1 := frozen_blk (j := 1) Bw.out
          have Bwf2 := frozen_blk (j := 2) Bw.out
          have Bwf3 := frozen_blk (j := 3) Bw.out
          go_wp2
          go_roundw
          case rel => exact ⟨k + 1, n1, n2, n3, n4, by omega, by go_num, Bw, (by repeat (first | exact T | refine bO ?_ | refine bA ?_ | refine bS ?_ | refine bD ?_ | refine bN ?_)), O1, O2, HS2⟩
          case measure => simp [intOf] <;> omega
      · skip
        have hDn := mul_bd (x := D) (y := n) (A := 2000000) (B := 10000000) (by omega) (by omega)
        have hDp : 0 < D * n := by exact Int.mul_pos (by omega) hn
        have hDq : D * n ≤ 1000000000000000 := by have : -D * n = -(D * n) := Int.neg_mul _ _; omega
        obtain ⟨⟨v1, v2⟩, hv⟩ : ∃ v, ratOf ((hh.c * D - hh.a * X - hh.b * Y)) (D * n) = v := ⟨_, rfl⟩
        have ov1 : ratioOk v1 v2 = true := by have := ratOf_valid (n := (hh.c * D - hh.a * X - hh.b * Y)) (d := D * n) (by omega) ⟨hDp, hDq⟩; rw [hv] at this; exact this
        have HRO := Lib.hid hv
        have OV := Lib.hid ov1
        obtain ⟨⟨u1, u2⟩, hu⟩ : ∃ v, ratMin n3 n4 v1 v2 = v := ⟨_, rfl⟩
        have ou1 : ratioOk u1 u2 = true := by have := ratMin_ok O2.out OV.out; rw [hu] at this; exact this
        have HM := Lib.hid hu
        have OU := Lib.hid ou1
        have q3 := ratioOk_bd ov1
        have HS2 : Hid (admL r X Y D (e.drop (k + 1)) (((n1, n2), (u1, u2))) = res) := Lib.hid (by
          have h1 := HA.out
          rw [HC.out] at h1
          rw [HCS.out] at h1
          rw [if_pos hn, hv] at h1
          simp only [hu] at h1
          exact h1)
        clear hv ov1 hu ou1
        obtain ⟨Brc0, Brc1, Brc2, Brc3, Brc4, Brc5, Brc6, Brc7, Brl⟩ := cb8 Br
        obtain ⟨Bec0, Bel⟩ := cb1 Be
        obtain ⟨Bsc0, Bsc1, Bsc2, Bsl⟩ := cb3 Bs
        obtain ⟨Boc0, Boc1, Boc2, Boc3, Bol⟩ := cb4 Bo
        obtain ⟨Bwc0, Bwc1, Bwc2, Bwc3, Bwl⟩ := cb4 Bw
        have Bof0 := frozen_blk (j := 0) Bo.out
        have Bof1 := frozen_blk (j := 1) Bo.out
        have Bof2 := frozen_blk (j := 2) Bo.out
        have Bof3 := frozen_blk (j := 3) Bo.out
        have Bwf0 := frozen_blk (j := 0) Bw.out
        have Bwf1 := frozen_blk (j := 1) Bw.out
        have Bwf2 := frozen_blk (j := 2) Bw.out
        have Bwf3 := frozen_blk (j := 3) Bw.out
        go_wp2_with fail
        clear Brc0 Brc1 Brc2 Brc3 Brc4 Brc5 Brc6 Brc7 Bec0 Bsc0 Bsc1 Bsc2 Boc0 Boc1 Boc2 Boc3 Bwc0 Bwc1 Bwc2 Bwc3 Brl Bel Bsl Bol Bwl
        clear Bof0 Bof1 Bof2 Bof3
        clear Bwf0 Bwf1 Bwf2 Bwf3
        obtain ⟨bh, hbx⟩ : ∃ b, b = wr.heap.size := ⟨_, rfl⟩
        rw [← hbx]
        obtain ⟨W110, hW⟩ : ∃ W, W = wr.alloc (.cells #[.int .i64 hh.a, .int .i64 hh.b, .int .i64 hh.c] 44) := ⟨_, rfl⟩
        rw [← hW]
        have K : Below wr.heap.size wr W110 := by rw [hW]; exact (by repeat (first | exact bR | refine bO ?_ | refine bA ?_ | refine bS ?_ | refine bD ?_ | refine bN ?_))
        have Bh := Lib.hid (show W110.heap[bh]? = some (.cells #[.int .i64 hh.a, .int .i64 hh.b, .int .i64 hh.c] 44 (0, 0)) by rw [hW, hbx]; exact heap_alloc_new _ _)
        clear hW hbx
        replace T := T.trans (K.mono T.size)
        replace Br := box_below Br K
        replace Be := box_below Be K
        replace Bs := box_below Bs K
        replace Bo := box_below Bo K
        replace Bw := box_below Bw K
        clear K Sr Se
        have Sr := Rr.below (TV.trans (T.mono s0))
        have Se := Re.below (TV.trans (T.mono s0))
        obtain ⟨Brc0, Brc1, Brc2, Brc3, Brc4, Brc5, Brc6, Brc7, Brl⟩ := cb8 Br
        obtain ⟨Bec0, Bel⟩ := cb1 Be
        obtain ⟨Bsc0, Bsc1, Bsc2, Bsl⟩ := cb3 Bs
        obtain ⟨Boc0, Boc1, Boc2, Boc3, Bol⟩ := cb4 Bo
        obtain ⟨Bwc0, Bwc1, Bwc2, Bwc3, Bwl⟩ := cb4 Bw
        obtain ⟨Bhc0, Bhc1, Bhc2, Bhl⟩ := cb3 Bh
        have Bof0 := frozen_blk (j := 0) Bo.out
        have Bof1 := frozen_blk (j := 1) Bo.out
        have Bof2 := frozen_blk (j := 2) Bo.out
        have Bof3 := frozen_blk (j := 3) Bo.out
        have Bwf0 := frozen_blk (j := 0) Bw.out
        have Bwf1 := frozen_blk (j := 1) Bw.out
        have Bwf2 := frozen_blk (j := 2) Bw.out
        have Bwf3 := frozen_blk (j := 3) Bw.out
        go_wp2_with fail
        clear Brc0 Brc1 Brc2 Brc3 Brc4 Brc5 Brc6 Brc7 Bec0 Bsc0 Bsc1 Bsc2 Boc0 Boc1 Boc2 Boc3 Bwc0 Bwc1 Bwc2 Bwc3 Bhc0 Bhc1 Bhc2 Brl Bel Bsl Bol Bwl Bhl
        clear Bof0 Bof1 Bof2 Bof3
        clear Bwf0 Bwf1 Bwf2 Bwf3
        refine (calls_ov (slope_eq (slope_bd HP.out kh) HN)).mono ?_
        rintro e w' ⟨rfl, x, rfl⟩
        obtain ⟨W111, hW⟩ : ∃ W111, W111 = ov W110 x := ⟨_, rfl⟩
        rw [← hW]
        have K : Below W110.heap.size W110 W111 := by rw [hW]; exact (by repeat (first | exact bR | refine bO ?_ | refine bA ?_ | refine bS ?_ | refine bD ?_ | refine bN ?_))
        clear hW
        replace T := T.trans (K.mono T.size)
        replace Br := box_below Br K
        replace Be := box_below Be K
        replace Bs := box_below Bs K
        replace Bo := box_below Bo K
        replace Bw := box_below Bw K
        replace Bh := box_below Bh K
        clear K Sr Se
        have Sr := Rr.below (TV.trans (T.mono s0))
        have Se := Re.below (TV.trans (T.mono s0))
        obtain ⟨Brc0, Brc1, Brc2, Brc3, Brc4, Brc5, Brc6, Brc7, Brl⟩ := cb8 Br
        obtain ⟨Bec0, Bel⟩ := cb1 Be
        obtain ⟨Bsc0, Bsc1, Bsc2, Bsl⟩ := cb3 Bs
        obtain ⟨Boc0, Boc1, Boc2, Boc3, Bol⟩ := cb4 Bo
        obtain ⟨Bwc0, Bwc1, Bwc2, Bwc3, Bwl⟩ := cb4 Bw
        obtain ⟨Bhc0, Bhc1, Bhc2, Bhl⟩ := cb3 Bh
        have Bof0 := frozen_blk (j := 0) Bo.out
        have Bof1 := frozen_blk (j := 1) Bo.out
        have Bof2 := frozen_blk (j := 2) Bo.out
        have Bof3 := frozen_blk (j := 3) Bo.out
        have Bwf0 := frozen_blk (j := 0) Bw.out
        have Bwf1 := frozen_blk (j := 1) Bw.out
        have Bwf2 := frozen_blk (j := 2) Bw.out
        have Bwf3 := frozen_blk (j := 3) Bw.out
        go_wp2_with fail
        clear Brc0 Brc1 Brc2 Brc3 Brc4 Brc5 Brc6 Brc7 Bec0 Bsc0 Bsc1 Bsc2 Boc0 Boc1 Boc2 Boc3 Bwc0 Bwc1 Bwc2 Bwc3 Bhc0 Bhc1 Bhc2 Brl Bel Bsl Bol Bwl Bhl
        clear Bof0 Bof1 Bof2 Bof3
        clear Bwf0 Bwf1 Bwf2 Bwf3
        obtain ⟨Brc0, Brc1, Brc2, Brc3, Brc4, Brc5, Brc6, Brc7, Brl⟩ := cb8 Br
        obtain ⟨Bec0, Bel⟩ := cb1 Be
        obtain ⟨Bsc0, Bsc1, Bsc2, Bsl⟩ := cb3 Bs
        obtain ⟨Boc0, Boc1, Boc2, Boc3, Bol⟩ := cb4 Bo
        obtain ⟨Bwc0, Bwc1, Bwc2, Bwc3, Bwl⟩ := cb4 Bw
        obtain ⟨Bhc0, Bhc1, Bhc2, Bhl⟩ := cb3 Bh
        have Bof0 := frozen_blk (j := 0) Bo.out
        have Bof1 := frozen_blk (j := 1) Bo.out
        have Bof2 := frozen_blk (j := 2) Bo.out
        have Bof3 := frozen_blk (j := 3) Bo.out
        have Bwf0 := frozen_blk (j := 0) Bw.out
        have Bwf1 := frozen_blk (j := 1) Bw.out
        have Bwf2 := frozen_blk (j := 2) Bw.out
        have Bwf3 := frozen_blk (j := 3) Bw.out
        (refine wp_region_calm_tail 9 (by kernel_rfl) (by kernel_rfl) ?_; simp only [List.take_succ_cons, List.take_zero, List.drop_succ_cons, List.drop_zero]; (repeat (go_big_quiet_step (first | (go_at_call 36; exact calm_below (impl_RatioOf_eq HRO (by omega) (by omega))) | (go_at_call 104; exact calm_below (impl_RatioMin_eq O2.out OV.out HM))))); refine wpQuiet_nil ?_; rintro _ ⟨y, rfl⟩)
        clear Brc0 Brc1 Brc2 Brc3 Brc4 Brc5 Brc6 Brc7 Bec0 Bsc0 Bsc1 Bsc2 Boc0 Boc1 Boc2 Boc3 Bwc0 Bwc1 Bwc2 Bwc3 Bhc0 Bhc1 Bhc2 Brl Bel Bsl Bol Bwl Bhl
        clear Bof0 Bof1 Bof2 Bof3
        clear Bwf0 Bwf1 Bwf2 Bwf3
        obtain ⟨W7, hW⟩ : ∃ W7, W7 = ov W111 y := ⟨_, rfl⟩
        rw [← hW]
        have K : Below W111.heap.size W111 W7 := by rw [hW]; exact (by repeat (first | exact bR | refine bO ?_ | refine bA ?_ | refine bS ?_ | refine bD ?_ | refine bN ?_))
        clear hW
        replace T := T.trans (K.mono T.size)
        replace Br := box_below Br K
        replace Be := box_below Be K
        replace Bs := box_below Bs K
        replace Bo := box_below Bo K
        replace Bw := box_below Bw K
        replace Bh := box_below Bh K
        clear K Sr Se
        have Sr := Rr.below (TV.trans (T.mono s0))
        have Se := Re.below (TV.trans (T.mono s0))
        obtain ⟨Brc0, Brc1, Brc2, Brc3, Brc4, Brc5, Brc6, Brc7, Brl⟩ := cb8 Br
        obtain ⟨Bec0, Bel⟩ := cb1 Be
        obtain ⟨Bsc0, Bsc1, Bsc2, Bsl⟩ := cb3 Bs
        obtain ⟨Boc0, Boc1, Boc2, Boc3, Bol⟩ := cb4 Bo
        obtain ⟨Bwc0, Bwc1, Bwc2, Bwc3, Bwl⟩ := cb4 Bw
        obtain ⟨Bhc0, Bhc1, Bhc2, Bhl⟩ := cb3 Bh
        have Bof0 := frozen_blk (j := 0) Bo.out
        have Bof1 := frozen_blk (j := 1) Bo.out
        have Bof2 := frozen_blk (j := 2) Bo.out
        have Bof3 := frozen_blk (j := 3) Bo.out
        have Bwf0 := frozen_blk (j := 0) Bw.out
        have Bwf1 := frozen_blk (j := 1) Bw.out
        have Bwf2 := frozen_blk (j := 2) Bw.out
        have Bwf3 := frozen_blk (j := 3) Bw.out
        go_wp2
        go_roundw
        case rel => exact ⟨k + 1, n1, n2, u1, u2, by omega, by go_num, Lib.hid (set4_23 Bw.out), (T.setCell hbV _).setCell hbV _, O1, OU, HS2⟩
        case measure => simp [intOf] <;> omega
  case' hst => exact (by repeat (first | exact all_nil | refine all_cons trivial ?_ | refine all_cons isAl_stable ?_ | refine all_cons isSt_stable ?_ | refine all_cons isStB_stable ?_ | refine all_cons (isOw_stable (by assumption)) ?_))

end Go.Proofs.YtabmfaamadbefaaGreat