/- FnKept returns true for every argument, and leaves it as it was. No condition. -/
import Derived.Test.YtabmfaamadbefaaGreatQz
import Derived.Test.YtabmfaamadbefaaGreatCst
import Derived.Test.YtabmfaamadbefaaGreatZk
import Derived.Test.YtabmfaamadbefaaGreatQg
import Derived.Test.YtabmfaamadbefaaGreatQj
import Derived.Test.YtabmfaamadbefaaGreatWn
set_option linter.unusedVariables false
set_option linter.unusedSimpArgs false
set_option linter.unusedSectionVars false
namespace Go.Proofs.YtabmfaamadbefaaGreat
open Go.ChangeShapes Go.WideShapes Go.ChangeAt Go.RowKit Go.Joins
def GMod (n : Int) (w0 : World) (v : Value) (w : World) : Prop := ∃ z : Int, v = .int .i64 z ∧ (0 ≤ z ∧ z < n)
def GLine (w0 : World) (v : Value) (w : World) : Prop := ∃ k : Int, v = .int .i64 k ∧ (8 ≤ k ∧ k ≤ 27)
def GHalf1 (w0 : World) (v : Value) (w : World) : Prop := ∃ k : Int, v = .agg #[.int .i64 1, .int .i64 0, .int .i64 k] ∧ (8 ≤ k ∧ k ≤ 27)
def CutAt (ls c : List H3) : Prop := ∃ k : Int, (8 ≤ k ∧ k ≤ 27) ∧ cutR ls ⟨1, 0, k⟩ = (c, true)
def GCutT (ls : List H3) (w0 : World) (v : Value) (w : World) : Prop := ∃ c, CutAt ls c ∧ GTup c true w0 v w
def GCutR (ls : List H3) (w0 : World) (v : Value) (w : World) : Prop := ∃ c, CutAt ls c ∧ GReg c w0 v w
theorem ow_flat {T : TypeId} {G : World → Value → World → Prop} (h : ∀ w0 v w w', G w0 v w → G w0 v w') : Owned T G := ⟨fun _ _ _ _ => h _ _ _ _, fun _ _ _ _ _ _ _ _ => h _ _ _ _⟩
theorem ow_cutT (ls : List H3) : Owned 26 (GCutT ls) := ⟨fun w0 v w x ⟨c, hc, h⟩ => ⟨c, hc, (owned_tup c true).1 w0 v w x h⟩, fun w0 v w b cur arr hb hs ⟨c, hc, h⟩ => ⟨c, hc, (owned_tup c true).2 w0 v w b cur arr hb hs h⟩⟩
theorem ow_cutR (ls : List H3) : Owned 26 (GCutR ls) := ⟨fun w0 v w x ⟨c, hc, h⟩ => ⟨c, hc, (owned_reg c).1 w0 v w x h⟩, fun w0 v w b cur arr hb hs ⟨c, hc, h⟩ => ⟨c, hc, (owned_reg c).2 w0 v w b cur arr hb hs h⟩⟩
theorem cutAt_ok {r : RoomV} (D : RoomD r) {k : Int} (hk : 8 ≤ k ∧ k ≤ 27) : ∃ c, CutAt r.ls c ∧ cutR r.ls ⟨1, 0, k⟩ = (c, true) := by
  obtain ⟨c, h, _⟩ := cut_fine D hk
  exact ⟨c, ⟨k, hk, h⟩, h⟩
theorem cutAt_law {r : RoomV} {p q c : List H3} (hp : keptR r = (p, true)) (hc : CutAt r.ls c) (hq : keptR ⟨r.m, r.q, r.bx, r.by_, r.lo, r.hi, r.ns, c⟩ = (q, true)) : isWithinR q p = true ∧ isKeptR r q = true := by
  obtain ⟨k, _, h⟩ := hc
  exact cut_kept hp h hq
theorem cutAt_len {ls c : List H3} (hc : CutAt ls c) : c.length ≤ 40 := by
  obtain ⟨k, _, h⟩ := hc
  exact (region_good (cutR_ok h)).2

set_option maxRecDepth 100000 in
set_option maxHeartbeats 8000000 in
theorem lawK_any {bs : List Int} {A : Option Addr} {c : Nat} (w : World) (Rcode : RY w A bs) (hlen : bs.length ≤ 9223372036854775807) :
    Calls Tryz.prog 4 #[.slice A bs.length c] w fun e w' => e = .returned (.bool true) ∧ Below w.heap.size w w' := by
  by_cases hm : 1048576 < bs.length
  · go_enter Tryz.func4, Tryz.ntmps4
    go_wp2
    go_ret
    exact ⟨rfl, (by repeat (first | exact bR | refine bO ?_ | refine bA ?_ | refine bS ?_ | refine bD ?_ | refine bN ?_))⟩
  replace hm : bs.length ≤ 1048576 := by omega
  go_enter Tryz.func4, Tryz.ntmps4
  go_wp2_with fail
  obtain ⟨V, hV⟩ : ∃ V, V = w := ⟨_, rfl⟩
  have TV : Below w.heap.size w V := by rw [hV]; exact Below.refl _ _
  have s0 : w.heap.size ≤ V.heap.size := TV.size
  obtain ⟨W0, hW⟩ : ∃ W0, W0 = w := ⟨_, rfl⟩
  rw [← hW]
  have T : Below V.heap.size V W0 := by rw [hW, hV]; exact Below.refl _ _
  clear hW hV
  have Scode := Rcode.below (TV.trans (T.mono s0))
  refine (MakeRoom_any (Scode.below (by repeat (first | exact bR | refine bO ?_ | refine bA ?_ | refine bS ?_ | refine bD ?_ | refine bN ?_))) hm).mono ?_
  rintro e W1 ⟨r, gr, cr1, Ar2, cr2, Ar3, cr3, rfl, Xr, D, hb⟩
  have K : Below W0.heap.size W0 W1 := Below.trans (by repeat (first | exact bR | refine bO ?_ | refine bA ?_ | refine bS ?_ | refine bD ?_ | refine bN ?_)) (hb.mono (by first | exact Nat.le_refl _ | simp [ov_size]))
  clear hb
  replace T := T.trans (K.mono T.size)
  clear K Scode
  have Scode := Rcode.below (TV.trans (T.mono s0))
  have hsr := short_room D
  go_wp2_with fail
  obtain ⟨br, hbx⟩ : ∃ b, b = W1.heap.size := ⟨_, rfl⟩
  rw [← hbx]
  obtain ⟨W2, hW⟩ : ∃ W, W = W1.alloc (.cells #[.slice (some ⟨gr, 0, none⟩) r.m.length cr1, .int .i64 r.q, .int .i64 r.bx, .int .i64 r.by_, .int .i64 r.lo, .int .i64 r.hi, .slice Ar2 r.ns.length cr2, .slice Ar3 r.ls.length cr3] 28) := ⟨_, rfl⟩
  rw [← hW]
  have K : Below W1.heap.size W1 W2 := by rw [hW]; exact (by repeat (first | exact bR | refine bO ?_ | refine bA ?_ | refine bS ?_ | refine bD ?_ | refine bN ?_))
  have Br := Lib.hid (show W2.heap[br]? = some (.cells #[.slice (some ⟨gr, 0, none⟩) r.m.length cr1, .int .i64 r.q, .int .i64 r.bx, .int .i64 r.by_, .int .i64 r.lo, .int .i64 r.hi, .slice Ar2 r.ns.length cr2, .slice Ar3 r.ls.length cr3] 28 (0, 0)) by rw [hW, hbx]; exact heap_alloc_new _ _)
  clear hW hbx
  replace T := T.trans (K.mono T.size)
  replace Xr := Xr.below K
  clear K Scode
  have Scode := Rcode.below (TV.trans (T.mono s0))
  obtain ⟨⟨p, ok⟩, hp⟩ : ∃ v, keptR r = v := ⟨_, rfl⟩
  have lp := (region_good (keptR_reg hp)).2
  have HP := Lib.hid hp
  have HRO := Lib.hid (room_ok D)
  have HNL : r.ls.length ≤ 40 := by have := (limits D).len; omega
  clear hp
  refine (impl_KeptRegion_eq (by exact Xr.below (by repeat (first | exact bR | refine bO ?_ | refine bA ?_ | refine bS ?_ | refine bD ?_ | refine bN ?_))) hsr HP).mono ?_
  rintro e W3 ⟨Ap, cp, rfl, Xp, hb⟩
  have K : Below W2.heap.size W2 W3 := Below.trans (by repeat (first | exact bR | refine bO ?_ | refine bA ?_ | refine bS ?_ | refine bD ?_ | refine bN ?_)) (hb.mono (by first | exact Nat.le_refl _ | simp [ov_size]))
  clear hb
  replace T := T.trans (K.mono T.size)
  replace Br := box_below Br K
  replace Xr := Xr.below K
  clear K Scode
  have Scode := Rcode.below (TV.trans (T.mono s0))
  replace Xp := Xp.r3
  obtain ⟨Brc0, Brc1, Brc2, Brc3, Brc4, Brc5, Brc6, Brc7, Brl⟩ := cb8 Br
  go_wp2_with fail
  clear Brc0 Brc1 Brc2 Brc3 Brc4 Brc5 Brc6 Brc7 Brl
  obtain ⟨bp, hbx⟩ : ∃ b, b = W3.heap.size := ⟨_, rfl⟩
  rw [← hbx]
  obtain ⟨W4, hW⟩ : ∃ W, W = W3.alloc (.cells #[.slice Ap p.length cp] 26) := ⟨_, rfl⟩
  rw [← hW]
  have K : Below W3.heap.size W3 W4 := by rw [hW]; exact (by repeat (first | exact bR | refine bO ?_ | refine bA ?_ | refine bS ?_ | refine bD ?_ | refine bN ?_))
  have Bp := Lib.hid (show W4.heap[bp]? = some (.cells #[.slice Ap p.length cp] 26 (0, 0)) by rw [hW, hbx]; exact heap_alloc_new _ _)
  clear hW hbx
  replace T := T.trans (K.mono T.size)
  replace Br := box_below Br K
  replace Xr := Xr.below K
  replace Xp := Xp.below K
  clear K Scode
  have Scode := Rcode.below (TV.trans (T.mono s0))
  refine (calls_ov (impl_RoomOk_eq (by exact Xr.below (by repeat (first | exact bR | refine bO ?_ | refine bA ?_ | refine bS ?_ | refine bD ?_ | refine bN ?_))) hsr HRO)).mono ?_
  rintro e w' ⟨rfl, x9, rfl⟩
  obtain ⟨W5, hW⟩ : ∃ Z, Z = ov W4 x9 := ⟨_, rfl⟩
  rw [← hW]
  have K : Below W4.heap.size W4 W5 := by rw [hW]; exact (by repeat (first | exact bR | refine bO ?_ | refine bA ?_ | refine bS ?_ | refine bD ?_ | refine bN ?_))
  clear hW
  replace T := T.trans (K.mono T.size)
  replace Br := box_below Br K
  replace Bp := box_below Bp K
  replace Xr := Xr.below K
  replace Xp := Xp.below K
  clear K Scode
  have Scode := Rcode.below (TV.trans (T.mono s0))
  cases ok with
  | false =>
    have HRN := Lib.hid (roundsR_none HP.out)
    obtain ⟨Brc0, Brc1, Brc2, Brc3, Brc4, Brc5, Brc6, Brc7, Brl⟩ := cb8 Br
    obtain ⟨Bpc0, Bpl⟩ := cb1 Bp
    go_wp2_with fail
    clear Brc0 Brc1 Brc2 Brc3 Brc4 Brc5 Brc6 Brc7 Bpc0 Brl Bpl
    refine (calls_ov (impl_RoundsOf_eq (by exact Xr.below (by repeat (first | exact bR | refine bO ?_ | refine bA ?_ | refine bS ?_ | refine bD ?_ | refine bN ?_))) hsr HRN)).mono ?_
    rintro e w' ⟨rfl, x9, rfl⟩
    obtain ⟨W6, hW⟩ : ∃ Z, Z = ov W5 x9 := ⟨_, rfl⟩
    rw [← hW]
    have K : Below W5.heap.size W5 W6 := by rw [hW]; exact (by repeat (first | exact bR | refine bO ?_ | refine bA ?_ | refine bS ?_ | refine bD ?_ | refine bN ?_))
    clear hW
    replace T := T.trans (K.mono T.size)
    replace Br := box_below Br K
    replace Bp := box_below Bp K
    replace Xr := Xr.below K
    replace Xp := Xp.below K
    clear K Scode
    have Scode := Rcode.below (TV.trans (T.mono s0))
    obtain ⟨Brc0, Brc1, Brc2, Brc3, Brc4, Brc5, Brc6, Brc7, Brl⟩ := cb8 Br
    obtain ⟨Bpc0, Bpl⟩ := cb1 Bp
    go_wp2
    go_ret
    exact ⟨rfl, (by repeat (first | exact TV.trans (T.mono s0) | refine bO ?_ | refine bA ?_ | refine bS ?_ | refine bD ?_ | refine bN ?_))⟩
  | true =>
    obtain ⟨hk1, hk2, hk3⟩ := kept_law HP.out
    obtain ⟨rn, hrn⟩ : ∃ v, roundsR r = v := ⟨_, rfl⟩
    rw [hrn] at hk3
    have HK := Lib.hid hk1
    have HW := Lib.hid hk2
    have HRN := Lib.hid hrn
    have hrd : decide (rn < 0) = false := decide_eq_false hk3
    clear hk1 hk2 hrn
    obtain ⟨Brc0, Brc1, Brc2, Brc3, Brc4, Brc5, Brc6, Brc7, Brl⟩ := cb8 Br
    obtain ⟨Bpc0, Bpl⟩ := cb1 Bp
    go_wp2_with fail
    clear Brc0 Brc1 Brc2 Brc3 Brc4 Brc5 Brc6 Brc7 Bpc0 Brl Bpl
    refine (calls_ov (impl_IsKept_eq (by exact Xr.below (by repeat (first | exact bR | refine bO ?_ | refine bA ?_ | refine bS ?_ | refine bD ?_ | refine bN ?_))) hsr (by exact Xp.below (by repeat (first | exact bR | refine bO ?_ | refine bA ?_ | refine bS ?_ | refine bD ?_ | refine bN ?_))) (by omega) HK)).mono ?_
    rintro e w' ⟨rfl, x9, rfl⟩
    obtain ⟨W7, hW⟩ : ∃ Z, Z = ov W5 x9 := ⟨_, rfl⟩
    rw [← hW]
    have K : Below W5.heap.size W5 W7 := by rw [hW]; exact (by repeat (first | exact bR | refine bO ?_ | refine bA ?_ | refine bS ?_ | refine bD ?_ | refine bN ?_))
    clear hW
    replace T := T.trans (K.mono T.size)
    replace Br := box_below Br K
    replace Bp := box_below Bp K
    replace Xr := Xr.below K
    replace Xp := Xp.below K
    clear K Scode
    have Scode := Rcode.below (TV.trans (T.mono s0))
    obtain ⟨Brc0, Brc1, Brc2, Brc3, Brc4, Brc5, Brc6, Brc7, Brl⟩ := cb8 Br
    obtain ⟨Bpc0, Bpl⟩ := cb1 Bp
    go_wp2_with fail
    clear Brc0 Brc1 Brc2 Brc3 Brc4 Brc5 Brc6 Brc7 Bpc0 Brl Bpl
    refine (calls_ov (impl_IsWithin_eq (by exact Xp.below (by repeat (first | exact bR | refine bO ?_ | refine bA ?_ | refine bS ?_ | refine bD ?_ | refine bN ?_))) (by omega) (by exact Xr.lr.below (by repeat (first | exact bR | refine bO ?_ | refine bA ?_ | refine bS ?_ | refine bD ?_ | refine bN ?_))) (by omega) HW)).mono ?_
    rintro e w' ⟨rfl, x9, rfl⟩
    obtain ⟨W8, hW⟩ : ∃ Z, Z = ov W7 x9 := ⟨_, rfl⟩
    rw [← hW]
    have K : Below W7.heap.size W7 W8 := by rw [hW]; exact (by repeat (first | exact bR | refine bO ?_ | refine bA ?_ | refine bS ?_ | refine bD ?_ | refine bN ?_))
    clear hW
    replace T := T.trans (K.mono T.size)
    replace Br := box_below Br K
    replace Bp := box_below Bp K
    replace Xr := Xr.below K
    replace Xp := Xp.below K
    clear K Scode
    have Scode := Rcode.below (TV.trans (T.mono s0))
    obtain ⟨Brc0, Brc1, Brc2, Brc3, Brc4, Brc5, Brc6, Brc7, Brl⟩ := cb8 Br
    obtain ⟨Bpc0, Bpl⟩ := cb1 Bp
    go_wp2_with fail
    clear Brc0 Brc1 Brc2 Brc3 Brc4 Brc5 Brc6 Brc7 Bpc0 Brl Bpl
    refine (calls_ov (impl_RoundsOf_eq (by exact Xr.below (by repeat (first | exact bR | refine bO ?_ | refine bA ?_ | refine bS ?_ | refine bD ?_ | refine bN ?_))) hsr HRN)).mono ?_
    rintro e w' ⟨rfl, x9, rfl⟩
    obtain ⟨W9, hW⟩ : ∃ Z, Z = ov W8 x9 := ⟨_, rfl⟩
    rw [← hW]
    have K : Below W8.heap.size W8 W9 := by rw [hW]; exact (by repeat (first | exact bR | refine bO ?_ | refine bA ?_ | refine bS ?_ | refine bD ?_ | refine bN ?_))
    clear hW
    replace T := T.trans (K.mono T.size)
    replace Br := box_below Br K
    replace Bp := box_below Bp K
    replace Xr := Xr.below K
    replace Xp := Xp.below K
    clear K Scode
    have Scode := Rcode.below (TV.trans (T.mono s0))
    have XrA := Xr
    have XpA := Xp
    have BrA := Br
    have BpA := Bp
    obtain ⟨Brc0, Brc1, Brc2, Brc3, Brc4, Brc5, Brc6, Brc7, Brl⟩ := cb8 Br
    obtain ⟨Bpc0, Bpl⟩ := cb1 Bp
    go_wp2
    clear Brc0 Brc1 Brc2 Brc3 Brc4 Brc5 Brc6 Brc7 Bpc0 Brl Bpl
    obtain ⟨W10, hW⟩ : ∃ W, W = W9.alloc (.cells #[.slice (some ⟨gr, 0, none⟩) r.m.length cr1, .int .i64 r.q, .int .i64 r.bx, .int .i64 r.by_, .int .i64 r.lo, .int .i64 r.hi, .slice Ar2 r.ns.length cr2, .slice Ar3 r.ls.length cr3] 28) := ⟨_, rfl⟩
    rw [← hW]
    have TX : Below W9.heap.size W9 W10 := by rw [hW]; exact (by repeat (first | exact bR | refine bO ?_ | refine bA ?_ | refine bS ?_ | refine bD ?_ | refine bN ?_))
    have K := TX
    have Bx := Lib.hid (show W10.heap[W9.heap.size]? = some (.cells #[.slice (some ⟨gr, 0, none⟩) r.m.length cr1, .int .i64 r.q, .int .i64 r.bx, .int .i64 r.by_, .int .i64 r.lo, .int .i64 r.hi, .slice Ar2 r.ns.length cr2, .slice Ar3 r.ls.length cr3] 28 (0, 0)) by rw [hW]; exact heap_alloc_new _ _)
    have hgx : W9.heap.size ≤ W9.heap.size := Nat.le_refl _
    have hgv : V.heap.size ≤ W9.heap.size := T.size
    clear hW
    replace T := T.trans (K.mono T.size)
    replace Br := box_below Br K
    replace Bp := box_below Bp K
    replace Xr := Xr.below K
    replace Xp := Xp.below K
    clear K Scode
    have Scode := Rcode.below (TV.trans (T.mono s0))
    obtain ⟨bx, hbx⟩ : ∃ b, W9.heap.size = b := ⟨_, rfl⟩
    rw [hbx] at Bx
    try rw [hbx]
    have hgx2 : W9.heap.size ≤ bx := Nat.le_of_eq hbx
    have hgv2 : V.heap.size ≤ bx := by omega
    clear hgx hgv hbx
    have OM1 := ow_flat (T := 26) (G := GMod 65536) (fun _ _ _ _ h => h)
    have OM2 := ow_flat (T := 26) (G := GMod 20) (fun _ _ _ _ h => h)
    have OL := ow_flat (T := 26) (G := GLine) (fun _ _ _ _ h => h)
    have OH := ow_flat (T := 26) (G := GHalf1) (fun _ _ _ _ h => h)
    have OT := ow_cutT r.ls
    have OR := ow_cutR r.ls
    obtain ⟨Brc0, Brc1, Brc2, Brc3, Brc4, Brc5, Brc6, Brc7, Brl⟩ := cb8 Br
    obtain ⟨Bpc0, Bpl⟩ := cb1 Bp
    obtain ⟨Bxc0, Bxc1, Bxc2, Bxc3, Bxc4, Bxc5, Bxc6, Bxc7, Bxl⟩ := cb8 Bx
    refine wp_region_rel [.pur [] ?k0, .pur [] ?k1, .pur [] ?k2, .rel [] [3] false (IsOw (GMod 65536)), .rel [3] [4] false (IsOw (GMod 20)), .rel [4] [5] false (IsOw GLine), .rel [5] [6] false (IsOw GHalf1), .rel [6] [7] false (IsOw (GCutT r.ls)), .rel [7] [8] false (IsOw (GCutT r.ls)), .rel [8] [9] false (IsOw (GCutR r.ls)), .pur [8] ?k10, .rel [] [11] false (IsAl 26 1), .rel [11, 9] [11, 9] true (IsSt 26), .pur [] ?k13] _ rfl rfl (by kernel_rfl) (by kernel_rfl) ?hst (fun vs => ?walk)
    case' walk =>
      (refine wpRel_pur rfl rfl (fun x => by ((go_wp2); refine relEnd_pur rfl ?_ (by repeat (first | exact bR | refine bO ?_ | refine bA ?_ | refine bS ?_ | refine bD ?_ | refine bN ?_)); simp only [Act.put, List.setIfInBounds_toArray, List.set_cons_succ, List.set_cons_zero]; rfl)) ?_; simp only [Act.put, List.setIfInBounds_toArray, List.set_cons_succ, List.set_cons_zero])
      (refine wpRel_pur rfl rfl (fun x => by ((go_wp2); refine relEnd_pur rfl ?_ (by repeat (first | exact bR | refine bO ?_ | refine bA ?_ | refine bS ?_ | refine bD ?_ | refine bN ?_)); simp only [Act.put, List.setIfInBounds_toArray, List.set_cons_succ, List.set_cons_zero]; rfl)) ?_; simp only [Act.put, List.setIfInBounds_toArray, List.set_cons_succ, List.set_cons_zero])
      (refine wpRel_pur rfl rfl (fun x => by ((go_wp2); refine relEnd_pur rfl ?_ (by repeat (first | exact bR | refine bO ?_ | refine bA ?_ | refine bS ?_ | refine bD ?_ | refine bN ?_)); simp only [Act.put, List.setIfInBounds_toArray, List.set_cons_succ, List.set_cons_zero]; rfl)) ?_; simp only [Act.put, List.setIfInBounds_toArray, List.set_cons_succ, List.set_cons_zero])
      refine wpRel_own rfl rfl rfl (fun x hh => ?_) ?_
      · go_wp2_with fail
        refine (MakeNum_any (Scode.below (by repeat (first | exact bR | refine bO ?_ | refine bA ?_ | refine bS ?_ | refine bD ?_ | refine bN ?_))) hm ⟨by omega, by omega⟩).mono ?_
        rintro e w7 ⟨z, rfl, ⟨z0, z1⟩, hb7⟩
        go_wp2
        refine relEnd_ow rfl rfl ?_ hb7 ⟨z, rfl, z0, by omega⟩
        (simp only [Act.put, List.setIfInBounds_toArray, List.set_cons_succ, List.set_cons_zero] <;> rfl)
      simp only [Act.put, List.setIfInBounds_toArray, List.set_cons_succ, List.set_cons_zero]
      refine wpRel_own rfl rfl rfl (fun x hh => ?_) ?_
      · obtain ⟨z, f, z0, z1⟩ := isOw_at (hh 3 (by simp)) rfl
        simp only [f]
        go_wp2
        refine relEnd_ow rfl rfl ?_ (Below.refl _ _) ⟨z % 20, rfl, by omega, by omega⟩
        (simp only [Act.put, List.setIfInBounds_toArray, List.set_cons_succ, List.set_cons_zero] <;> rfl)
      simp only [Act.put, List.setIfInBounds_toArray, List.set_cons_succ, List.set_cons_zero]
      refine wpRel_own rfl rfl rfl (fun x hh => ?_) ?_
      · obtain ⟨z, f, z0, z1⟩ := isOw_at (hh 4 (by simp)) rfl
        simp only [f]
        go_wp2
        refine relEnd_ow rfl rfl ?_ (Below.refl _ _) ⟨8 + z, rfl, by omega, by omega⟩
        (simp only [Act.put, List.setIfInBounds_toArray, List.set_cons_succ, List.set_cons_zero] <;> rfl)
      simp only [Act.put, List.setIfInBounds_toArray, List.set_cons_succ, List.set_cons_zero]
      refine wpRel_own rfl rfl rfl (fun x hh => ?_) ?_
      · obtain ⟨z, f, z0, z1⟩ := isOw_at (hh 5 (by simp)) rfl
        simp only [f]
        go_wp2
        refine relEnd_ow rfl rfl ?_ (Below.refl _ _) ⟨z, rfl, z0, z1⟩
        (simp only [Act.put, List.setIfInBounds_toArray, List.set_cons_succ, List.set_cons_zero] <;> rfl)
      simp only [Act.put, List.setIfInBounds_toArray, List.set_cons_succ, List.set_cons_zero]
      refine wpRel_own rfl rfl rfl (fun x hh => ?_) ?_
      · obtain ⟨z, f, z0, z1⟩ := isOw_at (hh 6 (by simp)) rfl
        simp only [f]
        obtain ⟨c, hc, hcut⟩ := cutAt_ok D ⟨z0, z1⟩
        go_wp2_with fail
        refine (impl_CutRegion_eq (h := ⟨1, 0, z⟩) (hs := r.ls) (by exact Xr.lr.below (by repeat (first | exact bR | refine bO ?_ | refine bA ?_ | refine bS ?_ | refine bD ?_ | refine bN ?_))) (by omega) (Lib.hid hcut)).mono ?_
        rintro e w7 ⟨A7, c7, rfl, Q7, hb7⟩
        go_wp2
        refine relEnd_ow rfl rfl ?_ hb7 ⟨c, hc, A7, c7, rfl, Q7.weak (by rw [ov_size]; omega)⟩
        (simp only [Act.put, List.setIfInBounds_toArray, List.set_cons_succ, List.set_cons_zero] <;> rfl)
      simp only [Act.put, List.setIfInBounds_toArray, List.set_cons_succ, List.set_cons_zero]
      refine wpRel_own rfl rfl rfl (fun x hh => ?_) ?_
      · obtain ⟨c, hc, a, d, f, Q⟩ := isOw_at (hh 7 (by simp)) rfl
        simp only [f]
        go_wp2
        refine relEnd_ow rfl rfl ?_ (Below.refl _ _) ⟨c, hc, a, d, rfl, Q⟩
        (simp only [Act.put, List.setIfInBounds_toArray, List.set_cons_succ, List.set_cons_zero] <;> rfl)
      simp only [Act.put, List.setIfInBounds_toArray, List.set_cons_succ, List.set_cons_zero]
      refine wpRel_own rfl rfl rfl (fun x hh => ?_) ?_
      · obtain ⟨c, hc, a, d, f, Q⟩ := isOw_at (hh 8 (by simp)) rfl
        simp only [f]
        go_wp2
        refine relEnd_ow rfl rfl ?_ (Below.refl _ _) ⟨c, hc, a, d, rfl, Q⟩
        (simp only [Act.put, List.setIfInBounds_toArray, List.set_cons_succ, List.set_cons_zero] <;> rfl)
      simp only [Act.put, List.setIfInBounds_toArray, List.set_cons_succ, List.set_cons_zero]
      (refine wpRel_purn rfl rfl (fun x hh => by ((obtain ⟨c, hc, a, d, f, Q⟩ := isOw_at (hh 8 (by simp)) rfl; simp only [f]); (go_wp2); refine relEnd_pur rfl ?_ (by repeat (first | exact bR | refine bO ?_ | refine bA ?_ | refine bS ?_ | refine bD ?_ | refine bN ?_)); simp only [Act.put, List.setIfInBounds_toArray, List.set_cons_succ, List.set_cons_zero]; rfl)) ?_; simp only [Act.put, List.setIfInBounds_toArray, List.set_cons_succ, List.set_cons_zero])
      refine wpRel_al #[.slice none 0 0] rfl rfl rfl rfl rfl rfl (fun w => by simp [go_sem]) ?_
      simp only [Act.put, List.setIfInBounds_toArray, List.set_cons_succ, List.set_cons_zero]
      refine wpRel_so rfl rfl rfl rfl rfl rfl (by decide) (by decide) rfl rfl (by kernel_rfl) (fun w hw => by obtain ⟨c, hc, a, d, f, _⟩ := hw; rw [f]; exact reg_cells _ _ _) (by repeat (first | exact all_nil | refine all_cons trivial ?_ | refine all_cons isAl_steady ?_ | refine all_cons (isOw_steady (by assumption)) ?_)) ?_
      (refine wpRel_pur rfl rfl (fun x => by ((go_wp2); refine relEnd_pur rfl ?_ (by repeat (first | exact bR | refine bO ?_ | refine bA ?_ | refine bS ?_ | refine bD ?_ | refine bN ?_)); simp only [Act.put, List.setIfInBounds_toArray, List.set_cons_succ, List.set_cons_zero]; rfl)) ?_; simp only [Act.put, List.setIfInBounds_toArray, List.set_cons_succ, List.set_cons_zero])
      refine wpRelE_nilB0 (fun W11 K hh => ?_)
      obtain ⟨bc, e, hb, hx⟩ := isSt_own (hh 12) rfl rfl rfl
      obtain ⟨c, hca, aw, dw, f, Xc⟩ := isOw_at (hh 9) rfl
      rw [f] at hx
      simp only [e]
      have Bc := Lib.hid hx
      clear hh e f hx hb OM1 OM2 OL OH OT OR
      clear Brc0 Brc1 Brc2 Brc3 Brc4 Brc5 Brc6 Brc7 Bpc0 Bxc0 Bxc1 Bxc2 Bxc3 Bxc4 Bxc5 Bxc6 Bxc7 Brl Bpl Bxl
      replace TX := TX.trans (K.mono TX.size)
      replace T := T.trans (K.mono T.size)
      replace Br := box_below Br K
      replace Bp := box_below Bp K
      replace Bx := box_below Bx K
      replace Xr := Xr.below K
      replace Xp := Xp.below K
      clear K Scode
      have Scode := Rcode.below (TV.trans (T.mono s0))
      have lc := cutAt_len hca
      have HCA := Lib.hid hca
      obtain ⟨vc, hvc⟩ : ∃ t, decide (c.length = 0) = t := ⟨_, rfl⟩
      have HVC := Lib.hid hvc
      clear hca hvc
      obtain ⟨Brc0, Brc1, Brc2, Brc3, Brc4, Brc5, Brc6, Brc7, Brl⟩ := cb8 Br
      obtain ⟨Bpc0, Bpl⟩ := cb1 Bp
      obtain ⟨Bxc0, Bxc1, Bxc2, Bxc3, Bxc4, Bxc5, Bxc6, Bxc7, Bxl⟩ := cb8 Bx
      obtain ⟨Bcc0, Bcl⟩ := cb1 Bc
      go_wp2_with fail
      clear Brc0 Brc1 Brc2 Brc3 Brc4 Brc5 Brc6 Brc7 Bpc0 Bxc0 Bxc1 Bxc2 Bxc3 Bxc4 Bxc5 Bxc6 Bxc7 Bcc0 Brl Bpl Bxl Bcl
      refine (calls_ov (IsVoid_eq HVC)).mono ?_
      rintro e w' ⟨rfl, x9, rfl⟩
      obtain ⟨W12, hW⟩ : ∃ Z, Z = ov W11 x9 := ⟨_, rfl⟩
      rw [← hW]
      have K : Below W11.heap.size W11 W12 := by rw [hW]; exact (by repeat (first | exact bR | refine bO ?_ | refine bA ?_ | refine bS ?_ | refine bD ?_ | refine bN ?_))
      clear hW
      replace TX := TX.trans (K.mono TX.size)
      replace T := T.trans (K.mono T.size)
      replace Br := box_below Br K
      replace Bp := box_below Bp K
      replace Bx := box_below Bx K
      replace Bc := box_below Bc K
      replace Xr := Xr.below K
      replace Xp := Xp.below K
      replace Xc := Xc.below K
      clear K Scode
      have Scode := Rcode.below (TV.trans (T.mono s0))
      cases vc with
      | true =>
        obtain ⟨Brc0, Brc1, Brc2, Brc3, Brc4, Brc5, Brc6, Brc7, Brl⟩ := cb8 Br
        obtain ⟨Bpc0, Bpl⟩ := cb1 Bp
        obtain ⟨Bxc0, Bxc1, Bxc2, Bxc3, Bxc4, Bxc5, Bxc6, Bxc7, Bxl⟩ := cb8 Bx
        obtain ⟨Bcc0, Bcl⟩ := cb1 Bc
        go_wp2
        go_ret
        exact ⟨rfl, (by repeat (first | exact TV.trans (T.mono s0) | refine bO ?_ | refine bA ?_ | refine bS ?_ | refine bD ?_ | refine bN ?_))⟩
      | false =>
        have fx0 := frozen_blk (j := 0) Bx.out
        have fx1 := frozen_blk (j := 1) Bx.out
        have fx2 := frozen_blk (j := 2) Bx.out
        have fx3 := frozen_blk (j := 3) Bx.out
        have fx4 := frozen_blk (j := 4) Bx.out
        have fx5 := frozen_blk (j := 5) Bx.out
        have fx6 := frozen_blk (j := 6) Bx.out
        have fx7 := frozen_blk (j := 7) Bx.out
        obtain ⟨Brc0, Brc1, Brc2, Brc3, Brc4, Brc5, Brc6, Brc7, Brl⟩ := cb8 Br
        obtain ⟨Bpc0, Bpl⟩ := cb1 Bp
        obtain ⟨Bxc0, Bxc1, Bxc2, Bxc3, Bxc4, Bxc5, Bxc6, Bxc7, Bxl⟩ := cb8 Bx
        obtain ⟨Bcc0, Bcl⟩ := cb1 Bc
        go_wp2_with fail
        clear Brc0 Brc1 Brc2 Brc3 Brc4 Brc5 Brc6 Brc7 Bpc0 Bxc0 Bxc1 Bxc2 Bxc3 Bxc4 Bxc5 Bxc6 Bxc7 Bcc0 Brl Bpl Bxl Bcl
        clear fx0 fx1 fx2 fx3 fx4 fx5 fx6 fx7
        obtain ⟨W13, hW⟩ : ∃ Z, W12.setCell ⟨bx, 7, none⟩ (.slice aw c.length dw) = Z := ⟨_, rfl⟩
        rw [hW]
        have KX : Below W9.heap.size W9 W13 := by rw [← hW]; exact TX.setCell hgx2 _
        have TN : Below V.heap.size V W13 := by rw [← hW]; exact T.setCell hgv2 _
        have XcN := Xc.set_box (i := 7) (v := .slice aw c.length dw) Bx.out (by decide)
        rw [hW] at XcN
        have XrN := XrA.below KX
        have XpN := XpA.below KX
        have BrN := box_below BrA KX
        have BpN := box_below BpA KX
        clear hW T TX XrA XpA BrA BpA Xr Xp Xc Br Bp Bx Bc KX hgx2 hgv2
        have T := TN
        have Xr := XrN
        have Xp := XpN
        have Br := BrN
        have Bp := BpN
        have Xc := XcN
        clear TN XrN XpN BrN BpN XcN Scode
        have Scode := Rcode.below (TV.trans (T.mono s0))
        obtain ⟨⟨q, sm⟩, hq⟩ : ∃ v, keptR ⟨r.m, r.q, r.bx, r.by_, r.lo, r.hi, r.ns, c⟩ = v := ⟨_, rfl⟩
        have lq := (region_good (keptR_reg hq)).2
        have HQ := Lib.hid hq
        have hsx : (⟨r.m, r.q, r.bx, r.by_, r.lo, r.hi, r.ns, c⟩ : RoomV).Short := ⟨hsr.m, hsr.ns, by simp only; omega⟩
        clear hq
        refine (impl_KeptRegion_eq (r := ⟨r.m, r.q, r.bx, r.by_, r.lo, r.hi, r.ns, c⟩) (RM.below ⟨Xr.mr, Xr.nr, Xc.r3⟩ (by repeat (first | exact bR | refine bO ?_ | refine bA ?_ | refine bS ?_ | refine bD ?_ | refine bN ?_))) hsx HQ).mono ?_
        rintro e W14 ⟨Aq, cq, rfl, Xq, hb⟩
        have K : Below W13.heap.size W13 W14 := Below.trans (by repeat (first | exact bR | refine bO ?_ | refine bA ?_ | refine bS ?_ | refine bD ?_ | refine bN ?_)) (hb.mono (by first | exact Nat.le_refl _ | simp [ov_size]))
        clear hb
        replace T := T.trans (K.mono T.size)
        replace Br := box_below Br K
        replace Bp := box_below Bp K
        replace Xr := Xr.below K
        replace Xp := Xp.below K
        replace Xc := Xc.below K
        clear K Scode
        have Scode := Rcode.below (TV.trans (T.mono s0))
        replace Xq := Xq.r3
        cases sm with
        | false =>
          obtain ⟨Brc0, Brc1, Brc2, Brc3, Brc4, Brc5, Brc6, Brc7, Brl⟩ := cb8 Br
          obtain ⟨Bpc0, Bpl⟩ := cb1 Bp
          go_wp2
          go_ret
          exact ⟨rfl, (TV.trans (T.mono s0)).alloc (Nat.le_trans s0 T.size) _⟩
        | true =>
          obtain ⟨Brc0, Brc1, Brc2, Brc3, Brc4, Brc5, Brc6, Brc7, Brl⟩ := cb8 Br
          obtain ⟨Bpc0, Bpl⟩ := cb1 Bp
          go_wp2_with fail
          clear Brc0 Brc1 Brc2 Brc3 Brc4 Brc5 Brc6 Brc7 Bpc0 Brl Bpl
          obtain ⟨bq, hbx⟩ : ∃ b, b = W14.heap.size := ⟨_, rfl⟩
          rw [← hbx]
          obtain ⟨W15, hW⟩ : ∃ W, W = W14.alloc (.cells #[.slice Aq q.length cq] 26) := ⟨_, rfl⟩
          rw [← hW]
          have K : Below W14.heap.size W14 W15 := by rw [hW]; exact (by repeat (first | exact bR | refine bO ?_ | refine bA ?_ | refine bS ?_ | refine bD ?_ | refine bN ?_))
          have Bq := Lib.hid (show W15.heap[bq]? = some (.cells #[.slice Aq q.length cq] 26 (0, 0)) by rw [hW, hbx]; exact heap_alloc_new _ _)
          clear hW hbx
          replace T := T.trans (K.mono T.size)
          replace Br := box_below Br K
          replace Bp := box_below Bp K
          replace Xr := Xr.below K
          replace Xp := Xp.below K
          replace Xc := Xc.below K
          replace Xq := Xq.below K
          clear K Scode
          have Scode := Rcode.below (TV.trans (T.mono s0))
          obtain ⟨h1, h2⟩ := cutAt_law HP.out HCA.out HQ.out
          have H1 := Lib.hid h1
          have H2 := Lib.hid h2
          clear h1 h2
          obtain ⟨Brc0, Brc1, Brc2, Brc3, Brc4, Brc5, Brc6, Brc7, Brl⟩ := cb8 Br
          obtain ⟨Bpc0, Bpl⟩ := cb1 Bp
          obtain ⟨Bqc0, Bql⟩ := cb1 Bq
          go_wp2_with fail
          clear Brc0 Brc1 Brc2 Brc3 Brc4 Brc5 Brc6 Brc7 Bpc0 Bqc0 Brl Bpl Bql
          refine (calls_ov (impl_IsWithin_eq (by exact Xq.below (by repeat (first | exact bR | refine bO ?_ | refine bA ?_ | refine bS ?_ | refine bD ?_ | refine bN ?_))) (by omega) (by exact Xp.below (by repeat (first | exact bR | refine bO ?_ | refine bA ?_ | refine bS ?_ | refine bD ?_ | refine bN ?_))) (by omega) H1)).mono ?_
          rintro e w' ⟨rfl, x9, rfl⟩
          obtain ⟨W16, hW⟩ : ∃ Z, Z = ov W15 x9 := ⟨_, rfl⟩
          rw [← hW]
          have K : Below W15.heap.size W15 W16 := by rw [hW]; exact (by repeat (first | exact bR | refine bO ?_ | refine bA ?_ | refine bS ?_ | refine bD ?_ | refine bN ?_))
          clear hW
          replace T := T.trans (K.mono T.size)
          replace Br := box_below Br K
          replace Bp := box_below Bp K
          replace Bq := box_below Bq K
          replace Xr := Xr.below K
          replace Xp := Xp.below K
          replace Xc := Xc.below K
          replace Xq := Xq.below K
          clear K Scode
          have Scode := Rcode.below (TV.trans (T.mono s0))
          obtain ⟨Brc0, Brc1, Brc2, Brc3, Brc4, Brc5, Brc6, Brc7, Brl⟩ := cb8 Br
          obtain ⟨Bpc0, Bpl⟩ := cb1 Bp
          obtain ⟨Bqc0, Bql⟩ := cb1 Bq
          go_wp2_with fail
          clear Brc0 Brc1 Brc2 Brc3 Brc4 Brc5 Brc6 Brc7 Bpc0 Bqc0 Brl Bpl Bql
          refine (calls_ov (impl_IsKept_eq (by exact Xr.below (by repeat (first | exact bR | refine bO ?_ | refine bA ?_ | refine bS ?_ | refine bD ?_ | refine bN ?_))) hsr (by exact Xq.below (by repeat (first | exact bR | refine bO ?_ | refine bA ?_ | refine bS ?_ | refine bD ?_ | refine bN ?_))) (by omega) H2)).mono ?_
          rintro e w' ⟨rfl, x9, rfl⟩
          obtain ⟨W17, hW⟩ : ∃ Z, Z = ov W16 x9 := ⟨_, rfl⟩
          rw [← hW]
          have K : Below W16.heap.size W16 W17 := by rw [hW]; exact (by repeat (first | exact bR | refine bO ?_ | refine bA ?_ | refine bS ?_ | refine bD ?_ | refine bN ?_))
          clear hW
          replace T := T.trans (K.mono T.size)
          replace Br := box_below Br K
          replace Bp := box_below Bp K
          replace Bq := box_below Bq K
          replace Xr := Xr.below K
          replace Xp := Xp.below K
          replace Xc := Xc.below K
          replace Xq := Xq.below K
          clear K Scode
          have Scode := Rcode.below (TV.trans (T.mono s0))
          obtain ⟨Brc0, Brc1, Brc2, Brc3, Brc4, Brc5, Brc6, Brc7, Brl⟩ := cb8 Br
          obtain ⟨Bpc0, Bpl⟩ := cb1 Bp
          obtain ⟨Bqc0, Bql⟩ := cb1 Bq
          go_wp2
          go_ret
          exact ⟨rfl, (by repeat (first | exact TV.trans (T.mono s0) | refine bO ?_ | refine bA ?_ | refine bS ?_ | refine bD ?_ | refine bN ?_))⟩
    case' hst => exact (by repeat (first | exact all_nil | refine all_cons trivial ?_ | refine all_cons isAl_stable ?_ | refine all_cons isSt_stable ?_ | refine all_cons isStB_stable ?_ | refine all_cons (isOw_stable (by assumption)) ?_))
set_option maxRecDepth 100000 in
theorem FnKept_lifted (os : Os) (started : os.Started) (H : Type) (enc : TypeId × Value → H) :
    ReturnsInHanded {} Tryz.checked os 4 .any (Rows.fnKeptSpec.pre6 enc Tryz.prog Tryz.f4 Rows.fnKeptRow.domain false) (Rows.fnKeptSpec.post enc Tryz.prog Tryz.f4 false true false false) := by
  refine returnsInHanded_of_change (C := Tryz.checked) own started (by kernel_rfl) Tryz.func4
    (ChangeSpec.witness6 (enc := enc) (C := Tryz.checked) false ⟨#[], #[.slice none 0 0], []⟩ 8 (by kernel_rfl) (by kernel_rfl) (by kernel_rfl) (by kernel_rfl)) ?_
  intro W base args ds gs before hval0 hW hcnd _
  have hval : ∀ (j : Nat) t v, Tryz.f4.params[j]? = some t → args[j]? = some v → Value.okWide Tryz.prog W .any base t v := hval0
  have hW' := hW
  obtain ⟨p, q, hA0, hV, rfl, hfz, hnd⟩ := hW
  have hA : DataW.TrodAll enc Tryz.prog W 0 (fun _ => true) true Tryz.f4.params.toList args.toList ds p := hA0
  rw [Tryz.params4] at hA hval
  obtain ⟨v0, vs0, d0, ds0, p0, q0, hargs0, rfl, rfl, h0, r0⟩ := trodAll_cons hA
  obtain ⟨rfl, rfl, rfl⟩ := trodAll_nil r0
  obtain rfl : args = #[v0] := by cases args; simp_all
  obtain ⟨rfl, rfl⟩ := trodVars_none hV
  have k0 := h0
  have lt0 : ∀ x ∈ p0, x.block < W.heap.size := by obtain ⟨m, hm⟩ := k0; exact DataW.trod_lt m _ _ _ hm
  have hv0 := hval 0 22 v0 rfl rfl
  obtain ⟨A0, c0, xs0, rfl, RR0, hlen0⟩ := open_bytes hv0 h0
  clear hA0 hval0
  refine (lawK_any W RR0 hlen0).mono fun e W' ⟨he, bel⟩ => ?_
  subst he
  exact ⟨_, rfl, _, _, _, [], _, [], hW', trodAll_mk1 (shut_bool Tryz.underlying4 _), (trodAll_cons_mk (Below.trod laidOut (by kernel_rfl) (of_decide_eq_true (by kernel_rfl)) k0 bel lt0) trodAll_mk0), rfl, bel.frame _, fun h => by cases h⟩

theorem FnKept_holds : Rows.FnKeptSaid :=
  OpenClaim.holds_of_wide 4 Tryz.f4 rfl rfl rfl rfl rfl rfl rfl ⟨rfl, rfl, rfl, rfl, rfl⟩ rfl rfl rfl rfl rfl (by kernel_rfl) Tryz.func4 (by kernel_rfl)
    (of_decide_eq_true (by kernel_rfl)) (by unfold Func.isWrapper; first | (rw [if_pos (by decide +kernel)]; kernel_rfl) | (rw [if_neg (by decide +kernel)]; exact ⟨rfl, rfl⟩))
    (fun os started H enc _ => FnKept_lifted os started H enc)
#print axioms FnKept_holds
end Go.Proofs.YtabmfaamadbefaaGreat