/- Several texts in one: Cr, Cst. Each says its own conditions. -/
import Derived.Test.YtabmfaamadbefaaGreatRh
import Derived.Test.YtabmfaamadbefaaGreatSv
import Derived.Test.YtabmfaamadbefaaGreatZr
import Derived.Test.YtabmfaamadbefaaGreatQz
import Derived.Test.YtabmfaamadbefaaGreatCu
/- The rooms and the states that the reference draws. Condition: the code has at most 2^20 bytes. -/
set_option linter.unusedVariables false
set_option linter.unusedSimpArgs false
set_option linter.unusedSectionVars false
namespace Go.Proofs.YtabmfaamadbefaaGreat
open Go.ChangeShapes Go.WideShapes Go.ChangeAt Go.RowKit Go.Joins
theorem pick4r : ∀ (k : Nat) (hk : k < ([2, 4, 5, 10] : List Int).length), 2 ≤ ([2, 4, 5, 10] : List Int)[k] ∧ ([2, 4, 5, 10] : List Int)[k] ≤ 10 := by
  intro k hk
  have hk4 : k < 4 := hk
  have : k = 0 ∨ k = 1 ∨ k = 2 ∨ k = 3 := by omega
  rcases this with rfl | rfl | rfl | rfl <;> simp
/-- The cells of a room. -/
def roomV (r : RoomV) (g c1 : Nat) (A2 : Option Addr) (c2 : Nat) (A3 : Option Addr) (c3 : Nat) : Value := .agg #[.slice (some ⟨g, 0, none⟩) r.m.length c1, .int .i64 r.q, .int .i64 r.bx, .int .i64 r.by_, .int .i64 r.lo, .int .i64 r.hi, .slice A2 r.ns.length c2, .slice A3 r.ls.length c3]
def RoomPostD (b : Nat) (A : Option Addr) (c : Nat) (bs : List Int) (w : World) (e : Ending) (w' : World) : Prop := ∃ (r : RoomV) (g c1 : Nat) (A2 : Option Addr) (c2 : Nat) (A3 : Option Addr) (c3 : Nat), e = .returned (roomV r g c1 A2 c2 A3 c3) ∧ IB g w' r.m ∧ RB w.heap.size 44 w' A2 c2 r.ns ∧ RB w.heap.size 44 w' A3 c3 r.ls ∧ RoomD r ∧ CurE b A c bs w' ∧ RY w' A bs ∧ w.grownBy w' (some b)
theorem cut_drawn {x y : Int} (hx : 15 ≤ x ∧ x ≤ 44) (hy : 15 ≤ y ∧ y ≤ 44) : cutR (boxB (-x) (-y) x y) ⟨1, 1, x + y / 2⟩ = (makeR (boxB (-x) (-y) x y ++ [⟨1, 1, x + y / 2⟩]), true) := by
  unfold cutR
  rw [if_pos ⟨(halfOk_iff _).2 (cut_half hx hy), box_reg (limit_box hx hy), by show 4 < 40; omega⟩, if_neg (by simp [boxB])]
theorem half_drawn {x y : Int} (hx : 15 ≤ x ∧ x ≤ 44) (hy : 15 ≤ y ∧ y ≤ 44) : halfOf 1 1 (x + y / 2) = (⟨1, 1, x + y / 2⟩, true) := by
  have k := (halfOk_iff _).2 (cut_half hx hy)
  have e : gcdL [1, 1, x + y / 2] = 1 := by simp [gcdL]
  unfold halfOf
  rw [if_neg (by unfold halfBad; omega), e]
  simp [k]

set_option maxRecDepth 100000 in
set_option maxHeartbeats 8000000 in
theorem l08Draw_any {b c : Nat} {A : Option Addr} {bs : List Int} {w : World} (R : RY w A bs) (C : CurE b A c bs w) (hl : bs.length ≤ 1048576) :
    Calls Tryz.prog 43 #[.pointer (some ⟨b, 0, none⟩)] w (RoomPostD b A c bs w) := by
  have hbl := C.lt
  have R00 := R
  go_enter Tryz.func43, Tryz.ntmps43
  go_wp2_with fail
  obtain ⟨W0, hW⟩ : ∃ Z, (w.alloc (.cells #[.slice none 0 0, .int .i64 0, .int .i64 0, .int .i64 0, .int .i64 0, .int .i64 0, .slice none 0 0, .slice none 0 0] 28)).alloc (.cells #[.int .i64 2, .int .i64 4, .int .i64 5, .int .i64 10] 3) = Z := ⟨_, rfl⟩
  rw [hW]
  have K : Below w.heap.size w W0 := by rw [← hW]; exact (by repeat (first | exact bR | refine bO ?_ | refine bA ?_ | refine bS ?_ | refine bD ?_ | refine bN ?_))
  have X2 := Lib.hid (show W0.heap[w.heap.size]? = some (.cells #[.slice none 0 0, .int .i64 0, .int .i64 0, .int .i64 0, .int .i64 0, .int .i64 0, .slice none 0 0, .slice none 0 0] 28 (0, 0)) by rw [← hW]; exact (heap_old_at (by simp)).trans (heap_new_at (by simp) rfl))
  have XP : RI W0 (some ⟨w.heap.size + 1, 0, none⟩) [2, 4, 5, 10] := (ib4 (by rw [← hW]; exact heap_new_at (by simp) rfl)).ri
  replace R := R.below K
  replace C := C.below K
  have G : w.grownBy W0 (some b) := gb_below K
  have s0 := K.size
  clear hW K
  have hne2 : w.heap.size ≠ b := by omega
  refine (l01Pick_any (xs := [2, 4, 5, 10]) R C hl XP ⟨by decide, by decide⟩ (fun g o e => by injection e with e; injection e with e; omega)).mono ?_
  obtain ⟨b2, hb2⟩ : ∃ r, w.heap.size = r := ⟨_, rfl⟩
  rw [hb2] at X2 hne2 ⊢
  rintro e W1 ⟨k, hk, rfl, C', R', K⟩
  obtain ⟨hq1, hq2⟩ := pick4r k hk
  obtain ⟨q, hqe⟩ : ∃ q, ([2, 4, 5, 10] : List Int)[k] = q := ⟨_, rfl⟩
  rw [hqe] at hq1 hq2 ⊢
  replace R := R'
  replace G := gb_trans G K
  replace X2 := box_thru X2 K hne2
  replace C := C'
  clear K C' R' hqe XP
  go_wp2_with fail
  refine (below_small R C hl ⟨by omega, by omega⟩).mono ?_
  rintro e W2 ⟨ze, rfl, ⟨zea, zeb⟩, C', K⟩
  replace R := R.thru C K
  replace G := gb_trans G K
  replace X2 := box_thru X2 K hne2
  replace C := C'
  clear K C'
  go_wp2_with fail
  refine (below_small R C hl ⟨by omega, by omega⟩).mono ?_
  rintro e W3 ⟨zf, rfl, ⟨zfa, zfb⟩, C', K⟩
  replace R := R.thru C K
  replace G := gb_trans G K
  replace X2 := box_thru X2 K hne2
  replace C := C'
  clear K C'
  go_wp2_with fail
  refine (below_small R C hl ⟨by omega, by omega⟩).mono ?_
  rintro e W4 ⟨zg, rfl, ⟨zga, zgb⟩, C', K⟩
  replace R := R.thru C K
  replace G := gb_trans G K
  replace X2 := box_thru X2 K hne2
  replace C := C'
  clear K C'
  go_wp2_with fail
  obtain ⟨m0, hm0⟩ : ∃ z : Int, q - 1 + ze = z := ⟨_, rfl⟩
  obtain ⟨W5, hW⟩ : ∃ Z, W4.alloc (.cells #[.int .i64 (q - 1 + ze), .int .i64 zf, .int .i64 (-zg), .int .i64 (q - 1)] 3) = Z := ⟨_, rfl⟩
  rw [hW]
  have K : Below W4.heap.size W4 W5 := by rw [← hW]; exact (by repeat (first | exact bR | refine bO ?_ | refine bA ?_ | refine bS ?_ | refine bD ?_ | refine bN ?_))
  have M : IB W4.heap.size W5 [q - 1 + ze, zf, -zg, q - 1] := ib4 (by rw [← hW]; exact heap_alloc_new _ _)
  clear hW hm0
  generalize W4.heap.size = gm at M ⊢
  replace R := R.below K
  replace G := gb_trans G (gb_below (o := some b) K)
  replace X2 := box_below X2 K
  replace C := C.below K
  clear K
  refine (below_small R C hl ⟨by omega, by omega⟩).mono ?_
  rintro e W6 ⟨zx, rfl, ⟨zxa, zxb⟩, C', K⟩
  replace R := R.thru C K
  replace G := gb_trans G K
  replace X2 := box_thru X2 K hne2
  replace M := M.thruC C K
  replace C := C'
  clear K C'
  go_wp2_with fail
  refine (below_small R C hl ⟨by omega, by omega⟩).mono ?_
  rintro e W7 ⟨zy, rfl, ⟨zya, zyb⟩, C', K⟩
  replace R := R.thru C K
  replace G := gb_trans G K
  replace X2 := box_thru X2 K hne2
  replace M := M.thruC C K
  replace C := C'
  clear K C'
  go_wp2_with fail
  obtain ⟨W8, hW⟩ : ∃ Z, W7.alloc (.cells #[.slice (some ⟨gm, 0, none⟩) 4 4, .int .i64 q, .int .i64 (1 + zx), .int .i64 (zy - 1), .int .i64 0, .int .i64 0, .slice none 0 0, .slice none 0 0] 28) = Z := ⟨_, rfl⟩
  rw [hW]
  have K : Below W7.heap.size W7 W8 := by rw [← hW]; exact (by repeat (first | exact bR | refine bO ?_ | refine bA ?_ | refine bS ?_ | refine bD ?_ | refine bN ?_))
  have X4 := Lib.hid (show W8.heap[W7.heap.size]? = some (.cells #[.slice (some ⟨gm, 0, none⟩) 4 4, .int .i64 q, .int .i64 (1 + zx), .int .i64 (zy - 1), .int .i64 0, .int .i64 0, .slice none 0 0, .slice none 0 0] 28 (0, 0)) by rw [← hW]; exact heap_alloc_new _ _)
  have hne4 : W7.heap.size ≠ b := by have := C.lt; omega
  have h24 : b2 ≠ W7.heap.size := by have := (Array.getElem?_eq_some_iff.1 X2.out).1; omega
  have hge4 : w.heap.size ≤ W7.heap.size := by have := (Array.getElem?_eq_some_iff.1 X2.out).1; omega
  clear hW
  replace R := R.below K
  replace G := gb_trans G (gb_below (o := some b) K)
  replace X2 := box_below X2 K
  replace M := M.below K
  replace C := C.below K
  clear K
  generalize W7.heap.size = b4 at X4 hne4 h24 hge4 ⊢
  refine (below_small R C hl ⟨by omega, by omega⟩).mono ?_
  rintro e W9 ⟨zl, rfl, ⟨zla, zlb⟩, C', K⟩
  replace R := R.thru C K
  replace G := gb_trans G K
  replace X2 := box_thru X2 K hne2
  replace X4 := box_thru X4 K hne4
  replace M := M.thruC C K
  replace C := C'
  clear K C'
  obtain ⟨x40, x41, x42, x43, x44, x45, x46, x47, x4l⟩ := cb8 X4
  have f40 := frozen_blk (j := 0) X4.out
  have f41 := frozen_blk (j := 1) X4.out
  have f42 := frozen_blk (j := 2) X4.out
  have f43 := frozen_blk (j := 3) X4.out
  have f44 := frozen_blk (j := 4) X4.out
  have f45 := frozen_blk (j := 5) X4.out
  have f46 := frozen_blk (j := 6) X4.out
  have f47 := frozen_blk (j := 7) X4.out
  go_wp2_with fail
  clear x40 x41 x42 x43 x44 x45 x46 x47 x4l f40 f41 f42 f43 f44 f45 f46 f47
  obtain ⟨W10, hW⟩ : ∃ Z, W9.setCell ⟨b4, 4, none⟩ (.int .i64 (-zl - 3)) = Z := ⟨_, rfl⟩
  rw [hW]
  have K : W9.grownBy W10 (some b4) := by rw [← hW]; exact set_grown
  have X4n : Hid (W10.heap[b4]? = some (.cells #[.slice (some ⟨gm, 0, none⟩) 4 4, .int .i64 q, .int .i64 (1 + zx), .int .i64 (zy - 1), .int .i64 (-zl - 3), .int .i64 0, .slice none 0 0, .slice none 0 0] 28 (0, 0))) := Lib.hid (by rw [← hW]; exact set8_4 X4.out)
  clear hW
  replace R := R.thruN R00 hge4 K
  replace G := gb_thruN G K hge4
  replace X2 := box_thru X2 K h24
  replace M := M.thru K X4.out (by decide)
  replace C := C.thruN K (Ne.symm hne4)
  replace X4 := X4n
  clear K X4n
  refine (below_small R C hl ⟨by omega, by omega⟩).mono ?_
  rintro e W11 ⟨zh, rfl, ⟨zha, zhb⟩, C', K⟩
  replace R := R.thru C K
  replace G := gb_trans G K
  replace X2 := box_thru X2 K hne2
  replace X4 := box_thru X4 K hne4
  replace M := M.thruC C K
  replace C := C'
  clear K C'
  obtain ⟨x40, x41, x42, x43, x44, x45, x46, x47, x4l⟩ := cb8 X4
  have f40 := frozen_blk (j := 0) X4.out
  have f41 := frozen_blk (j := 1) X4.out
  have f42 := frozen_blk (j := 2) X4.out
  have f43 := frozen_blk (j := 3) X4.out
  have f44 := frozen_blk (j := 4) X4.out
  have f45 := frozen_blk (j := 5) X4.out
  have f46 := frozen_blk (j := 6) X4.out
  have f47 := frozen_blk (j := 7) X4.out
  go_wp2_with fail
  clear x40 x41 x42 x43 x44 x45 x46 x47 x4l f40 f41 f42 f43 f44 f45 f46 f47
  obtain ⟨W12, hW⟩ : ∃ Z, W11.setCell ⟨b4, 5, none⟩ (.int .i64 (3 + zh)) = Z := ⟨_, rfl⟩
  rw [hW]
  have K : W11.grownBy W12 (some b4) := by rw [← hW]; exact set_grown
  have X4n : Hid (W12.heap[b4]? = some (.cells #[.slice (some ⟨gm, 0, none⟩) 4 4, .int .i64 q, .int .i64 (1 + zx), .int .i64 (zy - 1), .int .i64 (-zl - 3), .int .i64 (3 + zh), .slice none 0 0, .slice none 0 0] 28 (0, 0))) := Lib.hid (by rw [← hW]; exact set8_5 X4.out)
  clear hW
  replace R := R.thruN R00 hge4 K
  replace G := gb_thruN G K hge4
  replace X2 := box_thru X2 K h24
  replace M := M.thru K X4.out (by decide)
  replace C := C.thruN K (Ne.symm hne4)
  replace X4 := X4n
  clear K X4n
  refine (below_small R C hl ⟨by omega, by omega⟩).mono ?_
  rintro e W13 ⟨za, rfl, ⟨zaa, zab⟩, C', K⟩
  replace R := R.thru C K
  replace G := gb_trans G K
  replace X2 := box_thru X2 K hne2
  replace X4 := box_thru X4 K hne4
  replace M := M.thruC C K
  replace C := C'
  clear K C'
  go_wp2_with fail
  have NB := noise_box (a := 1 + za) ⟨by omega, by omega⟩
  refine (spec_BoxRegion_any NB).mono ?_
  rintro e W14 ⟨AN, cN, rfl, N, K⟩
  have sz : w.heap.size ≤ W13.heap.size := G.size
  replace N := N.weak (B' := w.heap.size) sz
  clear sz
  replace R := R.below K
  replace G := gb_trans G (gb_below (o := some b) K)
  replace X2 := box_below X2 K
  replace X4 := box_below X4 K
  replace M := M.below K
  replace C := C.below K
  clear K
  obtain ⟨ns, hns⟩ : ∃ l, boxB (-(1 + za)) (-1) (1 + za) 1 = l := ⟨_, rfl⟩
  rw [hns] at N ⊢
  obtain ⟨x40, x41, x42, x43, x44, x45, x46, x47, x4l⟩ := cb8 X4
  have f40 := frozen_blk (j := 0) X4.out
  have f41 := frozen_blk (j := 1) X4.out
  have f42 := frozen_blk (j := 2) X4.out
  have f43 := frozen_blk (j := 3) X4.out
  have f44 := frozen_blk (j := 4) X4.out
  have f45 := frozen_blk (j := 5) X4.out
  have f46 := frozen_blk (j := 6) X4.out
  have f47 := frozen_blk (j := 7) X4.out
  go_wp2_with fail
  clear x40 x41 x42 x43 x44 x45 x46 x47 x4l f40 f41 f42 f43 f44 f45 f46 f47
  obtain ⟨W15, hW⟩ : ∃ Z, W14.setCell ⟨b4, 6, none⟩ (.slice AN ns.length cN) = Z := ⟨_, rfl⟩
  rw [hW]
  have K : W14.grownBy W15 (some b4) := by rw [← hW]; exact set_grown
  have X4n : Hid (W15.heap[b4]? = some (.cells #[.slice (some ⟨gm, 0, none⟩) 4 4, .int .i64 q, .int .i64 (1 + zx), .int .i64 (zy - 1), .int .i64 (-zl - 3), .int .i64 (3 + zh), .slice AN ns.length cN, .slice none 0 0] 28 (0, 0))) := Lib.hid (by rw [← hW]; exact set8_6 X4.out)
  clear hW
  replace R := R.thruN R00 hge4 K
  replace G := gb_thruN G K hge4
  replace X2 := box_thru X2 K h24
  replace M := M.thru K X4.out (by decide)
  replace N := N.thru K X4.out (by decide)
  replace C := C.thruN K (Ne.symm hne4)
  replace X4 := X4n
  clear K X4n
  refine (below_small R C hl ⟨by omega, by omega⟩).mono ?_
  rintro e W16 ⟨zp, rfl, ⟨zpa, zpb⟩, C', K⟩
  replace R := R.thru C K
  replace G := gb_trans G K
  replace X2 := box_thru X2 K hne2
  replace X4 := box_thru X4 K hne4
  replace M := M.thruC C K
  replace N := N.thruC C K
  replace C := C'
  clear K C'
  go_wp2_with fail
  refine (below_small R C hl ⟨by omega, by omega⟩).mono ?_
  rintro e W17 ⟨zr, rfl, ⟨zra, zrb⟩, C', K⟩
  replace R := R.thru C K
  replace G := gb_trans G K
  replace X2 := box_thru X2 K hne2
  replace X4 := box_thru X4 K hne4
  replace M := M.thruC C K
  replace N := N.thruC C K
  replace C := C'
  clear K C'
  go_wp2_with fail
  obtain ⟨px, hpx⟩ : ∃ t : Int, 15 + zp = t := ⟨_, rfl⟩
  obtain ⟨py, hpy⟩ : ∃ t : Int, 15 + zr = t := ⟨_, rfl⟩
  rw [hpx, hpy]
  have kx : 15 ≤ px ∧ px ≤ 44 := by omega
  have ky : 15 ≤ py ∧ py ≤ 44 := by omega
  have LB := limit_box kx ky
  clear hpx hpy
  refine (spec_BoxRegion_any LB).mono ?_
  rintro e W18 ⟨AP, cP, rfl, P, K⟩
  have sz : w.heap.size ≤ W17.heap.size := G.size
  replace P := P.weak (B' := w.heap.size) sz
  clear sz
  replace R := R.below K
  replace G := gb_trans G (gb_below (o := some b) K)
  replace X2 := box_below X2 K
  replace X4 := box_below X4 K
  replace M := M.below K
  replace N := N.below K
  replace C := C.below K
  clear K
  obtain ⟨lx, hlx⟩ : ∃ l, boxB (-px) (-py) px py = l := ⟨_, rfl⟩
  rw [hlx] at P ⊢
  obtain ⟨x40, x41, x42, x43, x44, x45, x46, x47, x4l⟩ := cb8 X4
  have f40 := frozen_blk (j := 0) X4.out
  have f41 := frozen_blk (j := 1) X4.out
  have f42 := frozen_blk (j := 2) X4.out
  have f43 := frozen_blk (j := 3) X4.out
  have f44 := frozen_blk (j := 4) X4.out
  have f45 := frozen_blk (j := 5) X4.out
  have f46 := frozen_blk (j := 6) X4.out
  have f47 := frozen_blk (j := 7) X4.out
  go_wp2_with fail
  clear x40 x41 x42 x43 x44 x45 x46 x47 x4l f40 f41 f42 f43 f44 f45 f46 f47
  obtain ⟨W19, hW⟩ : ∃ Z, W18.setCell ⟨b4, 7, none⟩ (.slice AP lx.length cP) = Z := ⟨_, rfl⟩
  rw [hW]
  have K : W18.grownBy W19 (some b4) := by rw [← hW]; exact set_grown
  have X4n : Hid (W19.heap[b4]? = some (.cells #[.slice (some ⟨gm, 0, none⟩) 4 4, .int .i64 q, .int .i64 (1 + zx), .int .i64 (zy - 1), .int .i64 (-zl - 3), .int .i64 (3 + zh), .slice AN ns.length cN, .slice AP lx.length cP] 28 (0, 0))) := Lib.hid (by rw [← hW]; exact set8_7 X4.out)
  clear hW
  replace R := R.thruN R00 hge4 K
  replace G := gb_thruN G K hge4
  replace X2 := box_thru X2 K h24
  replace M := M.thru K X4.out (by decide)
  replace N := N.thru K X4.out (by decide)
  replace P := P.thru K X4.out (by decide)
  replace C := C.thruN K (Ne.symm hne4)
  replace X4 := X4n
  clear K X4n
  refine (l01Once_any R C hl ⟨by omega, by omega⟩).mono ?_
  rintro e W20 ⟨v, rfl, C', K⟩
  replace R := R.thru C K
  replace G := gb_trans G K
  replace X2 := box_thru X2 K hne2
  replace X4 := box_thru X4 K hne4
  replace M := M.thruC C K
  replace N := N.thruC C K
  replace P := P.thruC C K
  replace C := C'
  clear K C'
  cases v with
  | false =>
    obtain ⟨x40, x41, x42, x43, x44, x45, x46, x47, x4l⟩ := cb8 X4
    have f40 := frozen_blk (j := 0) X4.out
    have f41 := frozen_blk (j := 1) X4.out
    have f42 := frozen_blk (j := 2) X4.out
    have f43 := frozen_blk (j := 3) X4.out
    have f44 := frozen_blk (j := 4) X4.out
    have f45 := frozen_blk (j := 5) X4.out
    have f46 := frozen_blk (j := 6) X4.out
    have f47 := frozen_blk (j := 7) X4.out
    obtain ⟨x20, x21, x22, x23, x24, x25, x26, x27, x2l⟩ := cb8 X2
    have f20 := frozen_blk (j := 0) X2.out
    have f21 := frozen_blk (j := 1) X2.out
    have f22 := frozen_blk (j := 2) X2.out
    have f23 := frozen_blk (j := 3) X2.out
    have f24 := frozen_blk (j := 4) X2.out
    have f25 := frozen_blk (j := 5) X2.out
    have f26 := frozen_blk (j := 6) X2.out
    have f27 := frozen_blk (j := 7) X2.out
    have K8 : W20.grownBy ((((((((W20.setCell ⟨b2, 0, none⟩ (.slice (some ⟨gm, 0, none⟩) 4 4)).setCell ⟨b2, 1, none⟩ (.int .i64 q)).setCell ⟨b2, 2, none⟩ (.int .i64 (1 + zx))).setCell ⟨b2, 3, none⟩ (.int .i64 (zy - 1))).setCell ⟨b2, 4, none⟩ (.int .i64 (-zl - 3))).setCell ⟨b2, 5, none⟩ (.int .i64 (3 + zh))).setCell ⟨b2, 6, none⟩ (.slice AN ns.length cN)).setCell ⟨b2, 7, none⟩ (.slice AP lx.length cP)) (some b2) := k8
    have hb2n : w.heap.size ≤ b2 := by omega
    have HH := Lib.hid (show IB gm ((((((((W20.setCell ⟨b2, 0, none⟩ (.slice (some ⟨gm, 0, none⟩) 4 4)).setCell ⟨b2, 1, none⟩ (.int .i64 q)).setCell ⟨b2, 2, none⟩ (.int .i64 (1 + zx))).setCell ⟨b2, 3, none⟩ (.int .i64 (zy - 1))).setCell ⟨b2, 4, none⟩ (.int .i64 (-zl - 3))).setCell ⟨b2, 5, none⟩ (.int .i64 (3 + zh))).setCell ⟨b2, 6, none⟩ (.slice AN ns.length cN)).setCell ⟨b2, 7, none⟩ (.slice AP lx.length cP)) [q - 1 + ze, zf, -zg, q - 1] ∧ RB w.heap.size 44 ((((((((W20.setCell ⟨b2, 0, none⟩ (.slice (some ⟨gm, 0, none⟩) 4 4)).setCell ⟨b2, 1, none⟩ (.int .i64 q)).setCell ⟨b2, 2, none⟩ (.int .i64 (1 + zx))).setCell ⟨b2, 3, none⟩ (.int .i64 (zy - 1))).setCell ⟨b2, 4, none⟩ (.int .i64 (-zl - 3))).setCell ⟨b2, 5, none⟩ (.int .i64 (3 + zh))).setCell ⟨b2, 6, none⟩ (.slice AN ns.length cN)).setCell ⟨b2, 7, none⟩ (.slice AP lx.length cP)) AN cN ns ∧ RB w.heap.size 44 ((((((((W20.setCell ⟨b2, 0, none⟩ (.slice (some ⟨gm, 0, none⟩) 4 4)).setCell ⟨b2, 1, none⟩ (.int .i64 q)).setCell ⟨b2, 2, none⟩ (.int .i64 (1 + zx))).setCell ⟨b2, 3, none⟩ (.int .i64 (zy - 1))).setCell ⟨b2, 4, none⟩ (.int .i64 (-zl - 3))).setCell ⟨b2, 5, none⟩ (.int .i64 (3 + zh))).setCell ⟨b2, 6, none⟩ (.slice AN ns.length cN)).setCell ⟨b2, 7, none⟩ (.slice AP lx.length cP)) AP cP lx ∧ CurE b A c bs ((((((((W20.setCell ⟨b2, 0, none⟩ (.slice (some ⟨gm, 0, none⟩) 4 4)).setCell ⟨b2, 1, none⟩ (.int .i64 q)).setCell ⟨b2, 2, none⟩ (.int .i64 (1 + zx))).setCell ⟨b2, 3, none⟩ (.int .i64 (zy - 1))).setCell ⟨b2, 4, none⟩ (.int .i64 (-zl - 3))).setCell ⟨b2, 5, none⟩ (.int .i64 (3 + zh))).setCell ⟨b2, 6, none⟩ (.slice AN ns.length cN)).setCell ⟨b2, 7, none⟩ (.slice AP lx.length cP)) ∧ RY ((((((((W20.setCell ⟨b2, 0, none⟩ (.slice (some ⟨gm, 0, none⟩) 4 4)).setCell ⟨b2, 1, none⟩ (.int .i64 q)).setCell ⟨b2, 2, none⟩ (.int .i64 (1 + zx))).setCell ⟨b2, 3, none⟩ (.int .i64 (zy - 1))).setCell ⟨b2, 4, none⟩ (.int .i64 (-zl - 3))).setCell ⟨b2, 5, none⟩ (.int .i64 (3 + zh))).setCell ⟨b2, 6, none⟩ (.slice AN ns.length cN)).setCell ⟨b2, 7, none⟩ (.slice AP lx.length cP)) A bs ∧ w.grownBy ((((((((W20.setCell ⟨b2, 0, none⟩ (.slice (some ⟨gm, 0, none⟩) 4 4)).setCell ⟨b2, 1, none⟩ (.int .i64 q)).setCell ⟨b2, 2, none⟩ (.int .i64 (1 + zx))).setCell ⟨b2, 3, none⟩ (.int .i64 (zy - 1))).setCell ⟨b2, 4, none⟩ (.int .i64 (-zl - 3))).setCell ⟨b2, 5, none⟩ (.int .i64 (3 + zh))).setCell ⟨b2, 6, none⟩ (.slice AN ns.length cN)).setCell ⟨b2, 7, none⟩ (.slice AP lx.length cP)) (some b) from ⟨M.thru K8 X2.out (by decide), N.thru K8 X2.out (by decide), P.thru K8 X2.out (by decide), C.thruN K8 (Ne.symm hne2), R.thruN R00 hb2n K8, gb_thruN G K8 hb2n⟩)
    clear M N P C R G K8 X4 X2
    go_wp2
    refine bodyPost_ret (v := .agg #[.slice (some ⟨gm, 0, none⟩) 4 4, .int .i64 q, .int .i64 (1 + zx), .int .i64 (zy - 1), .int .i64 (-zl - 3), .int .i64 (3 + zh), .slice AN ns.length cN, .slice AP lx.length cP]) (by simp [results, Tryz.results43, go_sem, x20, f20, x21, f21, x22, f22, x23, f23, x24, f24, x25, f25, x26, f26, x27, f27, x2l]) rfl ⟨⟨[q - 1 + ze, zf, -zg, q - 1], q, 1 + zx, zy - 1, -zl - 3, 3 + zh, ns, lx⟩, gm, 4, AN, cN, AP, cP, rfl, HH.out.1, HH.out.2.1, HH.out.2.2.1, ⟨⟨ze, zf, zg, by omega, by omega, by omega, rfl⟩, ⟨hq1, hq2⟩, by simp only; omega, by simp only; omega, by simp only; omega, by simp only; omega, ⟨1 + za, by omega, hns.symm⟩, ⟨px, py, kx, ky, .inl hlx.symm⟩⟩, HH.out.2.2.2⟩
  | true =>
    have HF := Lib.hid (half_drawn kx ky)
    have HC := Lib.hid (cut_drawn kx ky)
    rw [hlx] at HC
    have hll : lx.length ≤ 1000 := by rw [← hlx]; show 4 ≤ 1000; omega
    go_wp2_with fail
    refine (spec_HalfOf_eq HF (by omega) (by omega) (by omega)).mono ?_
    rintro e W21 ⟨rfl, K⟩
    replace R := R.below K
    replace G := gb_trans G (gb_below (o := some b) K)
    replace X2 := box_below X2 K
    replace X4 := box_below X4 K
    replace M := M.below K
    replace N := N.below K
    replace P := P.below K
    replace C := C.below K
    clear K
    obtain ⟨x40, x41, x42, x43, x44, x45, x46, x47, x4l⟩ := cb8 X4
    have f40 := frozen_blk (j := 0) X4.out
    have f41 := frozen_blk (j := 1) X4.out
    have f42 := frozen_blk (j := 2) X4.out
    have f43 := frozen_blk (j := 3) X4.out
    have f44 := frozen_blk (j := 4) X4.out
    have f45 := frozen_blk (j := 5) X4.out
    have f46 := frozen_blk (j := 6) X4.out
    have f47 := frozen_blk (j := 7) X4.out
    go_wp2_with fail
    clear x40 x41 x42 x43 x44 x45 x46 x47 x4l f40 f41 f42 f43 f44 f45 f46 f47
    obtain ⟨W22, hW⟩ : ∃ Z, W21.alloc (.cells #[.int .i64 1, .int .i64 1, .int .i64 (px + py / 2)] 44) = Z := ⟨_, rfl⟩
    rw [hW]
    have K : Below W21.heap.size W21 W22 := by rw [← hW]; exact (by repeat (first | exact bR | refine bO ?_ | refine bA ?_ | refine bS ?_ | refine bD ?_ | refine bN ?_))
    clear hW
    replace R := R.below K
    replace G := gb_trans G (gb_below (o := some b) K)
    replace X2 := box_below X2 K
    replace X4 := box_below X4 K
    replace M := M.below K
    replace N := N.below K
    replace P := P.below K
    replace C := C.below K
    clear K
    refine (spec_CutRegion_eq (h := ⟨1, 1, px + py / 2⟩) (hs := lx) P.r3 (by omega) HC).mono ?_
    rintro e W23 ⟨AQ, cQ, rfl, Q, K⟩
    have sz : w.heap.size ≤ W22.heap.size := G.size
    replace Q := Q.weak (B' := w.heap.size) sz
    clear sz
    replace R := R.below K
    replace G := gb_trans G (gb_below (o := some b) K)
    replace X2 := box_below X2 K
    replace X4 := box_below X4 K
    replace M := M.below K
    replace N := N.below K
    replace P := P.below K
    replace C := C.below K
    clear K
    obtain ⟨l2, hl2⟩ : ∃ l, makeR (lx ++ [⟨1, 1, px + py / 2⟩]) = l := ⟨_, rfl⟩
    have hl3 : makeR (boxB (-px) (-py) px py ++ [⟨1, 1, px + py / 2⟩]) = l2 := by rw [hlx]; exact hl2
    rw [hl2] at Q HC ⊢
    obtain ⟨WA, hWA⟩ : ∃ Z, Z = (W23.alloc (.cells #[.slice AQ l2.length cQ] 26)) := ⟨_, rfl⟩
    have TA : Below W23.heap.size W23 WA := by rw [hWA]; exact (by repeat (first | exact bR | refine bO ?_ | refine bA ?_ | refine bS ?_ | refine bD ?_ | refine bN ?_))
    have M1 := M.below TA
    have N1 := N.below TA
    have Q1 := Q.below TA
    have C1 := C.below TA
    have R1 := R.below TA
    have G1 := gb_trans G (gb_below (o := some b) TA)
    have X4A := box_below X4 TA
    have X2A := box_below X2 TA
    clear M N Q P C R G X4 X2 TA
    have KS : WA.grownBy (WA.setCell ⟨b4, 7, none⟩ (.slice AQ l2.length cQ)) (some b4) := set_grown
    have M2 := M1.thru KS X4A.out (by decide)
    have N2 := N1.thru KS X4A.out (by decide)
    have Q2 := Q1.thru KS X4A.out (by decide)
    have C2 := C1.thruN KS (Ne.symm hne4)
    have R2 := R1.thruN R00 hge4 KS
    have G2 := gb_thruN G1 KS hge4
    have X2B := box_thru X2A KS h24
    clear M1 N1 Q1 C1 R1 G1 KS
    have K8 : (WA.setCell ⟨b4, 7, none⟩ (.slice AQ l2.length cQ)).grownBy (((((((((WA.setCell ⟨b4, 7, none⟩ (.slice AQ l2.length cQ)).setCell ⟨b2, 0, none⟩ (.slice (some ⟨gm, 0, none⟩) 4 4)).setCell ⟨b2, 1, none⟩ (.int .i64 q)).setCell ⟨b2, 2, none⟩ (.int .i64 (1 + zx))).setCell ⟨b2, 3, none⟩ (.int .i64 (zy - 1))).setCell ⟨b2, 4, none⟩ (.int .i64 (-zl - 3))).setCell ⟨b2, 5, none⟩ (.int .i64 (3 + zh))).setCell ⟨b2, 6, none⟩ (.slice AN ns.length cN)).setCell ⟨b2, 7, none⟩ (.slice AQ l2.length cQ)) (some b2) := k8
    have hb2n : w.heap.size ≤ b2 := by omega
    have HH := Lib.hid (show IB gm (((((((((WA.setCell ⟨b4, 7, none⟩ (.slice AQ l2.length cQ)).setCell ⟨b2, 0, none⟩ (.slice (some ⟨gm, 0, none⟩) 4 4)).setCell ⟨b2, 1, none⟩ (.int .i64 q)).setCell ⟨b2, 2, none⟩ (.int .i64 (1 + zx))).setCell ⟨b2, 3, none⟩ (.int .i64 (zy - 1))).setCell ⟨b2, 4, none⟩ (.int .i64 (-zl - 3))).setCell ⟨b2, 5, none⟩ (.int .i64 (3 + zh))).setCell ⟨b2, 6, none⟩ (.slice AN ns.length cN)).setCell ⟨b2, 7, none⟩ (.slice AQ l2.length cQ)) [q - 1 + ze, zf, -zg, q - 1] ∧ RB w.heap.size 44 (((((((((WA.setCell ⟨b4, 7, none⟩ (.slice AQ l2.length cQ)).setCell ⟨b2, 0, none⟩ (.slice (some ⟨gm, 0, none⟩) 4 4)).setCell ⟨b2, 1, none⟩ (.int .i64 q)).setCell ⟨b2, 2, none⟩ (.int .i64 (1 + zx))).setCell ⟨b2, 3, none⟩ (.int .i64 (zy - 1))).setCell ⟨b2, 4, none⟩ (.int .i64 (-zl - 3))).setCell ⟨b2, 5, none⟩ (.int .i64 (3 + zh))).setCell ⟨b2, 6, none⟩ (.slice AN ns.length cN)).setCell ⟨b2, 7, none⟩ (.slice AQ l2.length cQ)) AN cN ns ∧ RB w.heap.size 44 (((((((((WA.setCell ⟨b4, 7, none⟩ (.slice AQ l2.length cQ)).setCell ⟨b2, 0, none⟩ (.slice (some ⟨gm, 0, none⟩) 4 4)).setCell ⟨b2, 1, none⟩ (.int .i64 q)).setCell ⟨b2, 2, none⟩ (.int .i64 (1 + zx))).setCell ⟨b2, 3, none⟩ (.int .i64 (zy - 1))).setCell ⟨b2, 4, none⟩ (.int .i64 (-zl - 3))).setCell ⟨b2, 5, none⟩ (.int .i64 (3 + zh))).setCell ⟨b2, 6, none⟩ (.slice AN ns.length cN)).setCell ⟨b2, 7, none⟩ (.slice AQ l2.length cQ)) AQ cQ l2 ∧ CurE b A c bs (((((((((WA.setCell ⟨b4, 7, none⟩ (.slice AQ l2.length cQ)).setCell ⟨b2, 0, none⟩ (.slice (some ⟨gm, 0, none⟩) 4 4)).setCell ⟨b2, 1, none⟩ (.int .i64 q)).setCell ⟨b2, 2, none⟩ (.int .i64 (1 + zx))).setCell ⟨b2, 3, none⟩ (.int .i64 (zy - 1))).setCell ⟨b2, 4, none⟩ (.int .i64 (-zl - 3))).setCell ⟨b2, 5, none⟩ (.int .i64 (3 + zh))).setCell ⟨b2, 6, none⟩ (.slice AN ns.length cN)).setCell ⟨b2, 7, none⟩ (.slice AQ l2.length cQ)) ∧ RY (((((((((WA.setCell ⟨b4, 7, none⟩ (.slice AQ l2.length cQ)).setCell ⟨b2, 0, none⟩ (.slice (some ⟨gm, 0, none⟩) 4 4)).setCell ⟨b2, 1, none⟩ (.int .i64 q)).setCell ⟨b2, 2, none⟩ (.int .i64 (1 + zx))).setCell ⟨b2, 3, none⟩ (.int .i64 (zy - 1))).setCell ⟨b2, 4, none⟩ (.int .i64 (-zl - 3))).setCell ⟨b2, 5, none⟩ (.int .i64 (3 + zh))).setCell ⟨b2, 6, none⟩ (.slice AN ns.length cN)).setCell ⟨b2, 7, none⟩ (.slice AQ l2.length cQ)) A bs ∧ w.grownBy (((((((((WA.setCell ⟨b4, 7, none⟩ (.slice AQ l2.length cQ)).setCell ⟨b2, 0, none⟩ (.slice (some ⟨gm, 0, none⟩) 4 4)).setCell ⟨b2, 1, none⟩ (.int .i64 q)).setCell ⟨b2, 2, none⟩ (.int .i64 (1 + zx))).setCell ⟨b2, 3, none⟩ (.int .i64 (zy - 1))).setCell ⟨b2, 4, none⟩ (.int .i64 (-zl - 3))).setCell ⟨b2, 5, none⟩ (.int .i64 (3 + zh))).setCell ⟨b2, 6, none⟩ (.slice AN ns.length cN)).setCell ⟨b2, 7, none⟩ (.slice AQ l2.length cQ)) (some b) from ⟨M2.thru K8 X2B.out (by decide), N2.thru K8 X2B.out (by decide), Q2.thru K8 X2B.out (by decide), C2.thruN K8 (Ne.symm hne2), R2.thruN R00 hb2n K8, gb_thruN G2 K8 hb2n⟩)
    clear M2 N2 Q2 C2 R2 G2 K8 X2B
    rw [hWA] at HH X4A X2A
    clear hWA
    obtain ⟨x40, x41, x42, x43, x44, x45, x46, x47, x4l⟩ := cb8 X4A
    have f40 := frozen_blk (j := 0) X4A.out
    have f41 := frozen_blk (j := 1) X4A.out
    have f42 := frozen_blk (j := 2) X4A.out
    have f43 := frozen_blk (j := 3) X4A.out
    have f44 := frozen_blk (j := 4) X4A.out
    have f45 := frozen_blk (j := 5) X4A.out
    have f46 := frozen_blk (j := 6) X4A.out
    have f47 := frozen_blk (j := 7) X4A.out
    obtain ⟨x20, x21, x22, x23, x24, x25, x26, x27, x2l⟩ := cb8 X2A
    have f20 := frozen_blk (j := 0) X2A.out
    have f21 := frozen_blk (j := 1) X2A.out
    have f22 := frozen_blk (j := 2) X2A.out
    have f23 := frozen_blk (j := 3) X2A.out
    have f24 := frozen_blk (j := 4) X2A.out
    have f25 := frozen_blk (j := 5) X2A.out
    have f26 := frozen_blk (j := 6) X2A.out
    have f27 := frozen_blk (j := 7) X2A.out
    clear X4A X2A
    go_wp2
    refine bodyPost_ret (v := .agg #[.slice (some ⟨gm, 0, none⟩) 4 4, .int .i64 q, .int .i64 (1 + zx), .int .i64 (zy - 1), .int .i64 (-zl - 3), .int .i64 (3 + zh), .slice AN ns.length cN, .slice AQ l2.length cQ]) (by simp [results, Tryz.results43, go_sem, x20, f20, x21, f21, x22, f22, x23, f23, x24, f24, x25, f25, x26, f26, x27, f27, x2l]) rfl ⟨⟨[q - 1 + ze, zf, -zg, q - 1], q, 1 + zx, zy - 1, -zl - 3, 3 + zh, ns, l2⟩, gm, 4, AN, cN, AQ, cQ, rfl, HH.out.1, HH.out.2.1, HH.out.2.2.1, ⟨⟨ze, zf, zg, by omega, by omega, by omega, rfl⟩, ⟨hq1, hq2⟩, by simp only; omega, by simp only; omega, by simp only; omega, by simp only; omega, ⟨1 + za, by omega, hns.symm⟩, ⟨px, py, kx, ky, .inr hl3.symm⟩⟩, HH.out.2.2.2⟩
end Go.Proofs.YtabmfaamadbefaaGreat
/- The rooms and the states of the laws. Condition: the code has at most 2^20 bytes. -/
set_option linter.unusedVariables false
set_option linter.unusedSimpArgs false
set_option linter.unusedSectionVars false
namespace Go.Proofs.YtabmfaamadbefaaGreat
open Go.ChangeShapes Go.WideShapes Go.ChangeAt Go.RowKit Go.Joins
def RoomOutD (w : World) (e : Ending) (w' : World) : Prop := ∃ (r : RoomV) (g c1 : Nat) (A2 : Option Addr) (c2 : Nat) (A3 : Option Addr) (c3 : Nat), e = .returned (.agg #[.slice (some ⟨g, 0, none⟩) r.m.length c1, .int .i64 r.q, .int .i64 r.bx, .int .i64 r.by_, .int .i64 r.lo, .int .i64 r.hi, .slice A2 r.ns.length c2, .slice A3 r.ls.length c3]) ∧ RM w' r (some ⟨g, 0, none⟩) A2 c2 A3 c3 ∧ RoomD r ∧ Below w.heap.size w w'
set_option maxRecDepth 100000 in
set_option maxHeartbeats 8000000 in
theorem MakeRoom_any {c : Nat} {A : Option Addr} {bs : List Int} {w : World} (R : RY w A bs) (hl : bs.length ≤ 1048576) :
    Calls Tryz.prog 9 #[.slice A bs.length c] w (RoomOutD w) := by
  go_enter Tryz.func9, Tryz.ntmps9
  go_wp2_with fail
  obtain ⟨W0, hW⟩ : ∃ Z, w.alloc (.cells #[.slice none 0 0, .int .i64 0, .int .i64 0, .int .i64 0, .int .i64 0, .int .i64 0, .slice none 0 0, .slice none 0 0] 28) = Z := ⟨_, rfl⟩
  rw [hW]
  have T0 : Below w.heap.size w W0 := by rw [← hW]; exact (by repeat (first | exact bR | refine bO ?_ | refine bA ?_ | refine bS ?_ | refine bD ?_ | refine bN ?_))
  have X0 := Lib.hid (show W0.heap[w.heap.size]? = some (.cells #[.slice none 0 0, .int .i64 0, .int .i64 0, .int .i64 0, .int .i64 0, .int .i64 0, .slice none 0 0, .slice none 0 0] 28 (0, 0)) by rw [← hW]; exact heap_alloc_new _ _)
  have R0 := R.below T0
  have s0 : w.heap.size < W0.heap.size := (Array.getElem?_eq_some_iff.1 X0.out).1
  clear hW
  refine (l01New_any R0 hl).mono ?_
  rintro e W1 ⟨b, rfl, hb, C, K⟩
  have R1 := R0.below K
  have T1 : Below w.heap.size w W1 := T0.trans (K.mono T0.size)
  have X1 := box_below X0 K
  have hne : w.heap.size ≠ b := by omega
  have hge : w.heap.size ≤ b := by omega
  clear R0 K X0 T0
  go_wp2_with fail
  refine (l08Draw_any R1 C hl).mono ?_
  rintro e W2 ⟨r, g, c1, A2, c2, A3, c3, rfl, M, N, L, D, C2, R2, G⟩
  unfold roomV
  have T2 := gb_low T1 G hge (Nat.le_refl _)
  have X2 := box_thru X1 G hne
  clear R1 C X1 T1 G C2 R2
  obtain ⟨b2, hb2⟩ : ∃ r, w.heap.size = r := ⟨_, rfl⟩
  rw [hb2] at X2 ⊢
  have hb2n : w.heap.size ≤ b2 := by omega
  have K8 : W2.grownBy ((((((((W2.setCell ⟨b2, 0, none⟩ (.slice (some ⟨g, 0, none⟩) r.m.length c1)).setCell ⟨b2, 1, none⟩ (.int .i64 r.q)).setCell ⟨b2, 2, none⟩ (.int .i64 r.bx)).setCell ⟨b2, 3, none⟩ (.int .i64 r.by_)).setCell ⟨b2, 4, none⟩ (.int .i64 r.lo)).setCell ⟨b2, 5, none⟩ (.int .i64 r.hi)).setCell ⟨b2, 6, none⟩ (.slice A2 r.ns.length c2)).setCell ⟨b2, 7, none⟩ (.slice A3 r.ls.length c3)) (some b2) := k8
  have HH := Lib.hid (show RM ((((((((W2.setCell ⟨b2, 0, none⟩ (.slice (some ⟨g, 0, none⟩) r.m.length c1)).setCell ⟨b2, 1, none⟩ (.int .i64 r.q)).setCell ⟨b2, 2, none⟩ (.int .i64 r.bx)).setCell ⟨b2, 3, none⟩ (.int .i64 r.by_)).setCell ⟨b2, 4, none⟩ (.int .i64 r.lo)).setCell ⟨b2, 5, none⟩ (.int .i64 r.hi)).setCell ⟨b2, 6, none⟩ (.slice A2 r.ns.length c2)).setCell ⟨b2, 7, none⟩ (.slice A3 r.ls.length c3)) r (some ⟨g, 0, none⟩) A2 c2 A3 c3 ∧ Below w.heap.size w ((((((((W2.setCell ⟨b2, 0, none⟩ (.slice (some ⟨g, 0, none⟩) r.m.length c1)).setCell ⟨b2, 1, none⟩ (.int .i64 r.q)).setCell ⟨b2, 2, none⟩ (.int .i64 r.bx)).setCell ⟨b2, 3, none⟩ (.int .i64 r.by_)).setCell ⟨b2, 4, none⟩ (.int .i64 r.lo)).setCell ⟨b2, 5, none⟩ (.int .i64 r.hi)).setCell ⟨b2, 6, none⟩ (.slice A2 r.ns.length c2)).setCell ⟨b2, 7, none⟩ (.slice A3 r.ls.length c3)) from ⟨⟨(M.thru K8 X2.out (by decide)).ri, (N.thru K8 X2.out (by decide)).r3, (L.thru K8 X2.out (by decide)).r3⟩, gb_low T2 K8 hb2n (Nat.le_refl _)⟩)
  clear M N L K8 T2
  obtain ⟨x20, x21, x22, x23, x24, x25, x26, x27, x2l⟩ := cb8 X2
  have f20 := frozen_blk (j := 0) X2.out
  have f21 := frozen_blk (j := 1) X2.out
  have f22 := frozen_blk (j := 2) X2.out
  have f23 := frozen_blk (j := 3) X2.out
  have f24 := frozen_blk (j := 4) X2.out
  have f25 := frozen_blk (j := 5) X2.out
  have f26 := frozen_blk (j := 6) X2.out
  have f27 := frozen_blk (j := 7) X2.out
  go_wp2
  refine bodyPost_ret (v := .agg #[.slice (some ⟨g, 0, none⟩) r.m.length c1, .int .i64 r.q, .int .i64 r.bx, .int .i64 r.by_, .int .i64 r.lo, .int .i64 r.hi, .slice A2 r.ns.length c2, .slice A3 r.ls.length c3]) (by simp [results, Tryz.results9, go_sem, x20, f20, x21, f21, x22, f22, x23, f23, x24, f24, x25, f25, x26, f26, x27, f27, x2l]) rfl ⟨r, g, c1, A2, c2, A3, c3, rfl, HH.out.1, D, HH.out.2⟩

def GN30 (w0 : World) (v : Value) (w : World) : Prop := ∃ z : Int, v = .int .i64 z ∧ (0 ≤ z ∧ z < 30)
def GA30 (w0 : World) (v : Value) (w : World) : Prop := ∃ z : Int, v = .int .i64 z ∧ (-15 ≤ z ∧ z < 15)
def GS30 (w0 : World) (v : Value) (w : World) : Prop := ∃ x y : Int, v = .agg #[.int .i64 x, .int .i64 y, .int .i64 1] ∧ (-15 ≤ x ∧ x < 15) ∧ (-15 ≤ y ∧ y < 15)
theorem fl_n30 : ∀ w0 v w w', GN30 w0 v w → GN30 w0 v w' := fun _ _ _ _ h => h
theorem fl_a30 : ∀ w0 v w w', GA30 w0 v w → GA30 w0 v w' := fun _ _ _ _ h => h
theorem fl_s30 : ∀ w0 v w w', GS30 w0 v w → GS30 w0 v w' := fun _ _ _ _ h => h
/-- What MakeState's region keeps. -/
def KeptS (b b5 c g c1 c2 c3 : Nat) (A A2 A3 : Option Addr) (bs : List Int) (r : RoomV) (B : Nat) (w : World) : Prop := w.heap[b5]? = some (.cells #[.slice (some ⟨g, 0, none⟩) r.m.length c1, .int .i64 r.q, .int .i64 r.bx, .int .i64 r.by_, .int .i64 r.lo, .int .i64 r.hi, .slice A2 r.ns.length c2, .slice A3 r.ls.length c3] 28 (0, 0)) ∧ CurE b A c bs w ∧ RY w A bs ∧ IB g w r.m ∧ RB B 44 w A2 c2 r.ns ∧ RB B 44 w A3 c3 r.ls
def StateOutD (w : World) (e : Ending) (w' : World) : Prop := ∃ (r : RoomV) (g c1 : Nat) (A2 : Option Addr) (c2 : Nat) (A3 : Option Addr) (c3 : Nat) (x y : Int), e = .returned (.tuple #[.agg #[.slice (some ⟨g, 0, none⟩) r.m.length c1, .int .i64 r.q, .int .i64 r.bx, .int .i64 r.by_, .int .i64 r.lo, .int .i64 r.hi, .slice A2 r.ns.length c2, .slice A3 r.ls.length c3], .agg #[.int .i64 x, .int .i64 y, .int .i64 1]]) ∧ RM w' r (some ⟨g, 0, none⟩) A2 c2 A3 c3 ∧ RoomD r ∧ (-15 ≤ x ∧ x < 15) ∧ (-15 ≤ y ∧ y < 15) ∧ Below w.heap.size w w'
set_option maxRecDepth 100000 in
set_option maxHeartbeats 16000000 in
theorem MakeState_any {c : Nat} {A : Option Addr} {bs : List Int} {w : World} (R : RY w A bs) (hl : bs.length ≤ 1048576) :
    Calls Tryz.prog 25 #[.slice A bs.length c] w (StateOutD w) := by
  go_enter Tryz.func25, Tryz.ntmps25
  go_wp2_with fail
  obtain ⟨W0, hW⟩ : ∃ Z, (w.alloc (.cells #[.slice none 0 0, .int .i64 0, .int .i64 0, .int .i64 0, .int .i64 0, .int .i64 0, .slice none 0 0, .slice none 0 0] 28)).alloc (.cells #[.int .i64 0, .int .i64 0, .int .i64 0] 52) = Z := ⟨_, rfl⟩
  rw [hW]
  have T0 : Below w.heap.size w W0 := by rw [← hW]; exact (by repeat (first | exact bR | refine bO ?_ | refine bA ?_ | refine bS ?_ | refine bD ?_ | refine bN ?_))
  have X0 := Lib.hid (show W0.heap[w.heap.size]? = some (.cells #[.slice none 0 0, .int .i64 0, .int .i64 0, .int .i64 0, .int .i64 0, .int .i64 0, .slice none 0 0, .slice none 0 0] 28 (0, 0)) by rw [← hW]; exact (heap_old_at (by simp)).trans (heap_new_at (by simp) rfl))
  have Y0 := Lib.hid (show W0.heap[w.heap.size + 1]? = some (.cells #[.int .i64 0, .int .i64 0, .int .i64 0] 52 (0, 0)) by rw [← hW]; exact heap_new_at (by simp) rfl)
  have R0 := R.below T0
  have s0 : w.heap.size + 1 < W0.heap.size := (Array.getElem?_eq_some_iff.1 Y0.out).1
  clear hW
  refine (l01New_any R0 hl).mono ?_
  rintro e W1 ⟨b, rfl, hb, C, K⟩
  have R1 := R0.below K
  have T1 : Below w.heap.size w W1 := T0.trans (K.mono T0.size)
  have X1 := box_below X0 K
  have Y1 := box_below Y0 K
  have hne2 : w.heap.size ≠ b := by omega
  have hne3 : w.heap.size + 1 ≠ b := by omega
  have hge : w.heap.size ≤ b := by omega
  have h23 : w.heap.size ≠ w.heap.size + 1 := by omega
  have hg3 : w.heap.size ≤ w.heap.size + 1 := by omega
  clear R0 K X0 Y0 T0 s0 hb
  obtain ⟨b3, hb3⟩ : ∃ r, w.heap.size + 1 = r := ⟨_, rfl⟩
  obtain ⟨b2, hb2⟩ : ∃ r, w.heap.size = r := ⟨_, rfl⟩
  rw [hb3] at Y1 hne3 h23 hg3 ⊢
  rw [hb2] at X1 hne2 h23
  have hg2 : w.heap.size ≤ b2 := by omega
  go_wp2_with fail
  refine (l08Draw_any R1 C hl).mono ?_
  rintro e W2 ⟨r, g, c1, A2, c2, A3, c3, rfl, M, N, L, D, C2, R2, G⟩
  unfold roomV
  have T2 := gb_low T1 G hge (Nat.le_refl _)
  have X2 := box_thru X1 G hne2
  have Y2 := box_thru Y1 G hne3
  have sz := T1.size
  replace N := N.weak (B' := w.heap.size) sz
  replace L := L.weak (B' := w.heap.size) sz
  clear R1 C X1 Y1 T1 G sz
  go_wp2
  obtain ⟨W3, hW⟩ : ∃ Z, W2.alloc (.cells #[.slice (some ⟨g, 0, none⟩) r.m.length c1, .int .i64 r.q, .int .i64 r.bx, .int .i64 r.by_, .int .i64 r.lo, .int .i64 r.hi, .slice A2 r.ns.length c2, .slice A3 r.ls.length c3] 28) = Z := ⟨_, rfl⟩
  rw [hW]
  have TA : Below W2.heap.size W2 W3 := by rw [← hW]; exact (by repeat (first | exact bR | refine bO ?_ | refine bA ?_ | refine bS ?_ | refine bD ?_ | refine bN ?_))
  have X5 : W3.heap[W2.heap.size]? = some (.cells #[.slice (some ⟨g, 0, none⟩) r.m.length c1, .int .i64 r.q, .int .i64 r.bx, .int .i64 r.by_, .int .i64 r.lo, .int .i64 r.hi, .slice A2 r.ns.length c2, .slice A3 r.ls.length c3] 28 (0, 0)) := by rw [← hW]; exact heap_alloc_new _ _
  have T3 : Below w.heap.size w W3 := T2.trans (TA.mono T2.size)
  have X3 := (box_below X2 TA).out
  have Y3 := (box_below Y2 TA).out
  have C3 := C2.below TA
  have R3 := R2.below TA
  have M3 := M.below TA
  have N3 := N.below TA
  have L3 := L.below TA
  have hne5 : W2.heap.size ≠ b := by have := C2.lt; omega
  have h25 : b2 ≠ W2.heap.size := by have := (Array.getElem?_eq_some_iff.1 X2.out).1; omega
  have h35 : b3 ≠ W2.heap.size := by have := (Array.getElem?_eq_some_iff.1 Y2.out).1; omega
  clear hW X2 Y2 C2 R2 M N L T2 TA
  generalize W2.heap.size = b5 at X5 hne5 h25 h35 ⊢
  try rw [hb2]
  have FL : ∀ rd ∈ ([.pur [] (.agg #[.slice (some ⟨g, 0, none⟩) r.m.length c1, .int .i64 r.q, .int .i64 r.bx, .int .i64 r.by_, .int .i64 r.lo, .int .i64 r.hi, .slice A2 r.ns.length c2, .slice A3 r.ls.length c3]), .pur [] (.pointer (some ⟨b, 0, none⟩)), .rel [] [2] true (IsOw GN30), .rel [2] [3] false (IsOw GA30), .pur [] (.pointer (some ⟨b, 0, none⟩)), .rel [] [5] true (IsOw GN30), .rel [5] [6] false (IsOw GA30), .rel [3, 6] [7] false (IsOw GS30)] : List RD), rd.flat := (by repeat (first | exact all_nil | refine all_cons trivial ?_ | refine all_cons (flat_ow (by first | exact fl_n30 | exact fl_a30 | exact fl_s30)) ?_))
  have O2 := flat_owned (T := 28) fl_n30
  have O3 := flat_owned (T := 28) fl_a30
  have O7 := flat_owned (T := 28) fl_s30
  have HE : ∀ (w' : World) (x : More), (fun w' => IsOld b2 28 8 w' ∧ IsOld b3 52 3 w' ∧ KeptS b b5 c g c1 c2 c3 A A2 A3 bs r w.heap.size w') w' → (fun w' => IsOld b2 28 8 w' ∧ IsOld b3 52 3 w' ∧ KeptS b b5 c g c1 c2 c3 A A2 A3 bs r w.heap.size w') (ov w' x) := fun w' x h => ⟨isOld_ov _ _ h.1, isOld_ov _ _ h.2.1, ov_blk h.2.2.1, h.2.2.2.1.ov x, h.2.2.2.2.1.ov x, h.2.2.2.2.2.1.below (below_ov w' x (Below.refl _ _) (Nat.le_refl _)), h.2.2.2.2.2.2.1.below (below_ov w' x (Below.refl _ _) (Nat.le_refl _)), h.2.2.2.2.2.2.2.below (below_ov w' x (Below.refl _ _) (Nat.le_refl _))⟩
  refine wp_region_relE (fun w' => IsOld b2 28 8 w' ∧ IsOld b3 52 3 w' ∧ KeptS b b5 c g c1 c2 c3 A A2 A3 bs r w.heap.size w') ([], [(8, 2), (8, 5), (9, 2), (9, 5)]) (w := w) [.pur [] (.agg #[.slice (some ⟨g, 0, none⟩) r.m.length c1, .int .i64 r.q, .int .i64 r.bx, .int .i64 r.by_, .int .i64 r.lo, .int .i64 r.hi, .slice A2 r.ns.length c2, .slice A3 r.ls.length c3]), .pur [] (.pointer (some ⟨b, 0, none⟩)), .rel [] [2] true (IsOw GN30), .rel [2] [3] false (IsOw GA30), .pur [] (.pointer (some ⟨b, 0, none⟩)), .rel [] [5] true (IsOw GN30), .rel [5] [6] false (IsOw GA30), .rel [3, 6] [7] false (IsOw GS30), .rel [0] [0] true (IsStB b2 28), .rel [7] [7] true (IsStB b3 52)] _ rfl rfl (by kernel_rfl) (by kernel_rfl) (by kernel_rfl) (by kernel_rfl) (by repeat (first | exact all_nil | refine all_cons trivial ?_ | refine all_cons isAl_stable ?_ | refine all_cons isSt_stable ?_ | refine all_cons isStB_stable ?_ | refine all_cons (isOw_stable (by assumption)) ?_)) HE (ov_of_below T3) ⟨⟨_, rfl, X3⟩, ⟨_, rfl, Y3⟩, X5, C3, R3, M3, N3, L3⟩ (fun vs => ?_)
  refine wpRelE_purE (c := .agg #[.slice (some ⟨g, 0, none⟩) r.m.length c1, .int .i64 r.q, .int .i64 r.bx, .int .i64 r.by_, .int .i64 r.lo, .int .i64 r.hi, .slice A2 r.ns.length c2, .slice A3 r.ls.length c3]) rfl rfl (fun w' he hh => ?_) ?_
  · obtain ⟨hO, hO3, hX, hC, hR, hM, hN, hL⟩ := he
    obtain ⟨x0, x1, x2, x3, x4, x5, x6, x7, xl⟩ := cb8 (Lib.hid hX)
    clear hO hO3 hX hC hR hM hN hL
    go_wp2
    refine relEndE_pur rfl ?_ (by repeat (first | exact bR | refine bO ?_ | refine bA ?_ | refine bS ?_ | refine bD ?_ | refine bN ?_))
    (simp only [Act.put, List.setIfInBounds_toArray, List.set_cons_succ, List.set_cons_zero] <;> rfl)
  simp only [Act.put, List.setIfInBounds_toArray, List.set_cons_succ, List.set_cons_zero]
  refine wpRelE_purE (c := .pointer (some ⟨b, 0, none⟩)) rfl rfl (fun w' he hh => ?_) ?_
  · obtain ⟨hO, hO3, hX, hC, hR, hM, hN, hL⟩ := he
    clear hO hO3 hX hC hR hM hN hL
    go_wp2
    refine relEndE_pur rfl ?_ (by repeat (first | exact bR | refine bO ?_ | refine bA ?_ | refine bS ?_ | refine bD ?_ | refine bN ?_))
    (simp only [Act.put, List.setIfInBounds_toArray, List.set_cons_succ, List.set_cons_zero] <;> rfl)
  simp only [Act.put, List.setIfInBounds_toArray, List.set_cons_succ, List.set_cons_zero]
  refine wpRelE_wild rfl rfl (fun w' hw he => ?_) ?_
  · obtain ⟨⟨cur, hO1, hO2⟩, ⟨cu3, hS1, hS2⟩, hX, hC, hR, hM, hN, hL⟩ := he
    have hbw : Below w.heap.size w w' := by obtain ⟨x, rfl⟩ := hw; exact below_ov _ _ (Below.refl _ _) (Nat.le_refl _)
    go_wp2_with fail
    refine (below_small hR hC hl ⟨by omega, by omega⟩).mono ?_
    rintro e W9 ⟨z, rfl, hz, C9, K9⟩
    have E9 : IsOld b2 28 8 W9 ∧ IsOld b3 52 3 W9 ∧ KeptS b b5 c g c1 c2 c3 A A2 A3 bs r w.heap.size W9 := ⟨⟨cur, hO1, (box_thru (Lib.hid hO2) K9 hne2).out⟩, ⟨cu3, hS1, (box_thru (Lib.hid hS2) K9 hne3).out⟩, (box_thru (Lib.hid hX) K9 hne5).out, C9, hR.thru hC K9, hM.thruC hC K9, hN.thruC hC K9, hL.thruC hC K9⟩
    have T9 := ov_of_below (gb_low hbw K9 hge (Nat.le_refl _))
    clear hO1 hO2 hS1 hS2 hX hC hR hM hN hL K9
    go_wp2
    refine relEndE_wild rfl ?_ T9 E9 ⟨z, rfl, hz⟩ (fun j hj hK rj hq => ?_)
    · (simp only [Act.put, List.setIfInBounds_toArray, List.set_cons_succ, List.set_cons_zero] <;> rfl)
    · have hm : j < 10 := (List.getElem?_eq_some_iff.1 hq).1
      have h8 : j ≠ 8 := by rintro rfl; exact hK (by simp)
      have h9 : j ≠ 9 := by rintro rfl; exact hK (by simp)
      refine FL rj (List.mem_of_getElem? (i := j) ?_)
      rw [← hq]
      rcases j with _ | _ | _ | _ | _ | _ | _ | _ | j <;> first | rfl | omega
  simp only [Act.put, List.setIfInBounds_toArray, List.set_cons_succ, List.set_cons_zero]
  refine wpRelE_own rfl rfl rfl (fun x hh => ?_) ?_
  · obtain ⟨z, f2, hz⟩ := isOw_at (hh 2 (by simp)) rfl
    simp only [f2]
    go_wp2
    refine relEndE_own rfl rfl ?_ (by repeat (first | exact bR | refine bO ?_ | refine bA ?_ | refine bS ?_ | refine bD ?_ | refine bN ?_)) ⟨z - 15, rfl, ⟨by omega, by omega⟩⟩
    (simp only [Act.put, List.setIfInBounds_toArray, List.set_cons_succ, List.set_cons_zero] <;> rfl)
  simp only [Act.put, List.setIfInBounds_toArray, List.set_cons_succ, List.set_cons_zero]
  refine wpRelE_purE (c := .pointer (some ⟨b, 0, none⟩)) rfl rfl (fun w' he hh => ?_) ?_
  · obtain ⟨hO, hO3, hX, hC, hR, hM, hN, hL⟩ := he
    clear hO hO3 hX hC hR hM hN hL
    go_wp2
    refine relEndE_pur rfl ?_ (by repeat (first | exact bR | refine bO ?_ | refine bA ?_ | refine bS ?_ | refine bD ?_ | refine bN ?_))
    (simp only [Act.put, List.setIfInBounds_toArray, List.set_cons_succ, List.set_cons_zero] <;> rfl)
  simp only [Act.put, List.setIfInBounds_toArray, List.set_cons_succ, List.set_cons_zero]
  refine wpRelE_wild rfl rfl (fun w' hw he => ?_) ?_
  · obtain ⟨⟨cur, hO1, hO2⟩, ⟨cu3, hS1, hS2⟩, hX, hC, hR, hM, hN, hL⟩ := he
    have hbw : Below w.heap.size w w' := by obtain ⟨x, rfl⟩ := hw; exact below_ov _ _ (Below.refl _ _) (Nat.le_refl _)
    go_wp2_with fail
    refine (below_small hR hC hl ⟨by omega, by omega⟩).mono ?_
    rintro e W9 ⟨z, rfl, hz, C9, K9⟩
    have E9 : IsOld b2 28 8 W9 ∧ IsOld b3 52 3 W9 ∧ KeptS b b5 c g c1 c2 c3 A A2 A3 bs r w.heap.size W9 := ⟨⟨cur, hO1, (box_thru (Lib.hid hO2) K9 hne2).out⟩, ⟨cu3, hS1, (box_thru (Lib.hid hS2) K9 hne3).out⟩, (box_thru (Lib.hid hX) K9 hne5).out, C9, hR.thru hC K9, hM.thruC hC K9, hN.thruC hC K9, hL.thruC hC K9⟩
    have T9 := ov_of_below (gb_low hbw K9 hge (Nat.le_refl _))
    clear hO1 hO2 hS1 hS2 hX hC hR hM hN hL K9
    go_wp2
    refine relEndE_wild rfl ?_ T9 E9 ⟨z, rfl, hz⟩ (fun j hj hK rj hq => ?_)
    · (simp only [Act.put, List.setIfInBounds_toArray, List.set_cons_succ, List.set_cons_zero] <;> rfl)
    · have hm : j < 10 := (List.getElem?_eq_some_iff.1 hq).1
      have h8 : j ≠ 8 := by rintro rfl; exact hK (by simp)
      have h9 : j ≠ 9 := by rintro rfl; exact hK (by simp)
      refine FL rj (List.mem_of_getElem? (i := j) ?_)
      rw [← hq]
      rcases j with _ | _ | _ | _ | _ | _ | _ | _ | j <;> first | rfl | omega
  simp only [Act.put, List.setIfInBounds_toArray, List.set_cons_succ, List.set_cons_zero]
  refine wpRelE_own rfl rfl rfl (fun x hh => ?_) ?_
  · obtain ⟨z, f5, hz⟩ := isOw_at (hh 5 (by simp)) rfl
    simp only [f5]
    go_wp2
    refine relEndE_own rfl rfl ?_ (by repeat (first | exact bR | refine bO ?_ | refine bA ?_ | refine bS ?_ | refine bD ?_ | refine bN ?_)) ⟨z - 15, rfl, ⟨by omega, by omega⟩⟩
    (simp only [Act.put, List.setIfInBounds_toArray, List.set_cons_succ, List.set_cons_zero] <;> rfl)
  simp only [Act.put, List.setIfInBounds_toArray, List.set_cons_succ, List.set_cons_zero]
  refine wpRelE_own rfl rfl rfl (fun x hh => ?_) ?_
  · obtain ⟨z, f3, hz⟩ := isOw_at (hh 3 (by simp)) rfl
    obtain ⟨y, f6, hy⟩ := isOw_at (hh 6 (by simp)) rfl
    simp only [f3, f6]
    go_wp2
    refine relEndE_own rfl rfl ?_ (by repeat (first | exact bR | refine bO ?_ | refine bA ?_ | refine bS ?_ | refine bD ?_ | refine bN ?_)) ⟨z, y, rfl, hz, hy⟩
    (simp only [Act.put, List.setIfInBounds_toArray, List.set_cons_succ, List.set_cons_zero] <;> rfl)
  simp only [Act.put, List.setIfInBounds_toArray, List.set_cons_succ, List.set_cons_zero]
  refine wpRelE_oldG (n := 8) (u := .agg #[.slice (some ⟨g, 0, none⟩) r.m.length c1, .int .i64 r.q, .int .i64 r.bx, .int .i64 r.by_, .int .i64 r.lo, .int .i64 r.hi, .slice A2 r.ns.length c2, .slice A3 r.ls.length c3]) rfl rfl rfl rfl (by decide) rfl hg2 (by unfold vv; rfl) rfl (by kernel_rfl) (fun w' h => h.1) (fun w' _ => ⟨rfl, by simp [Value.cells, Value.oneCell']⟩) (fun m hm rm hq => by
      have hm10 : m < 10 := (List.getElem?_eq_some_iff.1 hq).1
      by_cases h8 : m < 8
      · refine keeps_flat (FL rm (List.mem_of_getElem? (i := m) ?_))
        rw [← hq]
        rcases m with _ | _ | _ | _ | _ | _ | _ | _ | m <;> first | rfl | omega
      · have h89 : m = 8 ∨ m = 9 := by omega
        rcases h89 with rfl | rfl
        · first | exact absurd rfl hm | (injection hq with hq; subst hq; exact keeps_stB h23)
        · first | exact absurd rfl hm | (injection hq with hq; subst hq; exact keeps_stB (Ne.symm h23))) (fun w' cur arr h hB hs => ⟨⟨arr, hs, setRow_heap _ _ _ _ _ _ hB⟩, ⟨h.2.1.choose, h.2.1.choose_spec.1, (setRow_other (Ne.symm h23)).trans h.2.1.choose_spec.2⟩, (setRow_other (Ne.symm h25)).trans h.2.2.1, h.2.2.2.1.setrow (Ne.symm hne2), h.2.2.2.2.1.setrow R hg2, h.2.2.2.2.2.1.set_row hB (by decide), h.2.2.2.2.2.2.1.set_row hB (by decide), h.2.2.2.2.2.2.2.set_row hB (by decide)⟩) ?_
  refine wpRelE_oldG (n := 3) (u := vs 7) rfl rfl rfl rfl (by decide) rfl hg3 (vv_rel rfl) rfl (by kernel_rfl) (fun w' h => h.2.1) (fun w' hw => by obtain ⟨z, y, f7, _⟩ := isOw_at hw rfl; rw [f7]; exact ⟨rfl, by simp [Value.cells, Value.oneCell']⟩) (fun m hm rm hq => by
      have hm10 : m < 10 := (List.getElem?_eq_some_iff.1 hq).1
      by_cases h8 : m < 8
      · refine keeps_flat (FL rm (List.mem_of_getElem? (i := m) ?_))
        rw [← hq]
        rcases m with _ | _ | _ | _ | _ | _ | _ | _ | m <;> first | rfl | omega
      · have h89 : m = 8 ∨ m = 9 := by omega
        rcases h89 with rfl | rfl
        · first | exact absurd rfl hm | (injection hq with hq; subst hq; exact keeps_stB h23)
        · first | exact absurd rfl hm | (injection hq with hq; subst hq; exact keeps_stB (Ne.symm h23))) (fun w' cur arr h hB hs => ⟨⟨h.1.choose, h.1.choose_spec.1, (setRow_other h23).trans h.1.choose_spec.2⟩, ⟨arr, hs, setRow_heap _ _ _ _ _ _ hB⟩, (setRow_other (Ne.symm h35)).trans h.2.2.1, h.2.2.2.1.setrow (Ne.symm hne3), h.2.2.2.2.1.setrow R hg3, h.2.2.2.2.2.1.set_row hB (by decide), h.2.2.2.2.2.2.1.set_row hB (by decide), h.2.2.2.2.2.2.2.set_row hB (by decide)⟩) ?_
  refine wpRelE_nil (fun W hbW hE hh => ?_)
  obtain ⟨z, y, f7, hz, hy⟩ := isOw_at (hh 7 (by intro k hk; simp at hk)) rfl
  have hXf := isStB_pur (hh 8 (by intro k hk; simp at hk)) rfl rfl
  have hYf := isStB_own (hh 9 (by intro k hk; simp at hk)) rfl rfl
  rw [f7] at hYf
  have HR := Lib.hid (show RM W r (some ⟨g, 0, none⟩) A2 c2 A3 c3 from ⟨hE.2.2.2.2.2.1.ri, hE.2.2.2.2.2.2.1.r3, hE.2.2.2.2.2.2.2.r3⟩)
  clear hE hh FL O2 O3 O7 HE X3 Y3 X5 C3 R3 M3 N3 L3 T3
  obtain ⟨x20, x21, x22, x23, x24, x25, x26, x27, x2l⟩ := cb8 (Lib.hid hXf)
  obtain ⟨y0, y1, y2, yl⟩ := cb3 (Lib.hid hYf)
  go_wp2
  refine bodyPost_ret (v := .tuple #[.agg #[.slice (some ⟨g, 0, none⟩) r.m.length c1, .int .i64 r.q, .int .i64 r.bx, .int .i64 r.by_, .int .i64 r.lo, .int .i64 r.hi, .slice A2 r.ns.length c2, .slice A3 r.ls.length c3], .agg #[.int .i64 z, .int .i64 y, .int .i64 1]]) (by simp [results, Tryz.results25, go_sem, x20, x21, x22, x23, x24, x25, x26, x27, x2l, y0, y1, y2, yl]) rfl ⟨r, g, c1, A2, c2, A3, c3, z, y, rfl, HR.out, D, hz, hy, hbW⟩
end Go.Proofs.YtabmfaamadbefaaGreat