/- Contracts of IsHeld of both sides. Condition: rows are short, the numbers are ints. -/
import Derived.Test.YtabmfaamadbefaaGreatRmo
import Derived.Test.YtabmfaamadbefaaGreatRt
import Derived.Test.YtabmfaamadbefaaGreatLk
set_option linter.unusedVariables false
set_option linter.unusedSimpArgs false
set_option linter.unusedSectionVars false
namespace Go.Proofs.YtabmfaamadbefaaGreat
open Go.RowKit
def toH (p : P3) : H3 := ⟨p.1, p.2.1, p.2.2⟩
def stepH (r : RoomV) (x y d n u : Int) (p : List H3) (t : H3) : Bool := (nextT r x y d n u t.a t.b t.c).2 && hasL p (toH (nextT r x y d n u t.a t.b t.c).1)
def isHeldR (r : RoomV) (x y d n u : Int) (p : List H3) : Bool := isInputR r n u && spotOk x y d && regionOk p && (cornersL r.ns).all (stepH r x y d n u p)
theorem spotOf_spot {x y d : Int} {q : P3} (h : spotOf x y d = (q, true)) : spotOk q.1 q.2.1 q.2.2 = true := by
  unfold spotOf at h
  split at h
  · simp at h
  · split at h
    · rename_i hc
      injection h with h _
      subst h; exact hc
    · simp at h
theorem nextT_spot {r : RoomV} {x y d n u a b c : Int} {q : P3} (h : nextT r x y d n u a b c = (q, true)) : okS (toH q) = true := by
  unfold nextT nextV at h
  split at h
  · exact spotOf_spot h
  · simp at h
theorem isInput_room {r : RoomV} {n u : Int} (h : isInputR r n u = true) : roomOk r = true := by
  unfold isInputR at h
  simp only [Bool.and_eq_true] at h
  exact h.1.1
theorem step_false {F : H3 → Bool} {cs : List H3} {k : Nat} (hk : k < cs.length) (h : F cs[k] = false) : cs.all F = false := by
  rw [List.all_eq_false]; exact ⟨_, List.getElem_mem hk, by rw [h]; simp⟩
theorem spotB_of {s : H3} (h : okS s = true) : SpotB s.a s.b s.c := by
  have := okS_bd h
  exact ⟨by omega, by omega, by omega⟩
set_option maxRecDepth 100000 in
set_option maxHeartbeats 8000000 in
theorem impl_IsHeld_eq {r : RoomV} {Ar1 Ar2 Ar3 : Option Addr} {cr1 cr2 cr3 : Nat} {p : List H3} {Ap : Option Addr} {cp : Nat} {x1 y1 d1 n1 u1 : Int} {w : World} {v : Bool} (Rr : RM w r Ar1 Ar2 cr2 Ar3 cr3) (hsr : r.Short) (Rp : R3 44 w Ap cp p) (hlr : r.InL) (hlp : p.length ≤ 1000000000) (hS : SpotB x1 y1 d1) (hU : SpotB n1 u1 0) (hr : Hid (isHeldR r x1 y1 d1 n1 u1 p = v)) :
    Calls Tryz.prog 32 #[.agg #[.slice Ar1 r.m.length cr1, .int .i64 r.q, .int .i64 r.bx, .int .i64 r.by_, .int .i64 r.lo, .int .i64 r.hi, .slice Ar2 r.ns.length cr2, .slice Ar3 r.ls.length cr3], .agg #[.int .i64 x1, .int .i64 y1, .int .i64 d1], .agg #[.int .i64 n1, .int .i64 u1], .agg #[.slice Ap p.length cp]] w (fun e w' => e = .returned (.bool v) ∧ Below w.heap.size w w') := by
  have hk := hr.out
  unfold isHeldR at hk
  clear hr
  obtain ⟨t1, h1⟩ : ∃ t, isInputR r n1 u1 = t := ⟨_, rfl⟩
  obtain ⟨t2, h2⟩ : ∃ t, spotOk x1 y1 d1 = t := ⟨_, rfl⟩
  obtain ⟨t3, h3⟩ : ∃ t, regionOk p = t := ⟨_, rfl⟩
  rw [h1, h2, h3] at hk
  have H1 := Lib.hid h1
  have H2 := Lib.hid h2
  have H3 := Lib.hid h3
  have hc : (v = false ∧ (t1 = false ∨ (t1 = true ∧ t2 = false) ∨ (t1 = true ∧ t2 = true ∧ t3 = false))) ∨ (t1 = true ∧ t2 = true ∧ t3 = true) := by
    rw [← hk]
    cases t1 <;> cases t2 <;> cases t3 <;> simp
  rcases hc with ⟨rfl, hc⟩ | ⟨rfl, rfl, rfl⟩
  · clear h1 h2 h3 hk
    rcases hc with rfl | ⟨rfl, rfl⟩ | ⟨rfl, rfl, rfl⟩
    all_goals
      go_enter Tryz.func32, Tryz.ntmps32
      go_wp2_with (first | (go_at_call 39; (first | (with_reducible refine (calls_ov2 (impl_IsInput_eq (Rr.below (by repeat (first | exact bR | refine bO ?_ | refine bA ?_ | refine bS ?_ | refine bD ?_ | refine bN ?_))) hsr hlr hU.x hU.y H1)).mono ?_) | refine (calls_ov (impl_IsInput_eq (Rr.below (by repeat (first | exact bR | refine bO ?_ | refine bA ?_ | refine bS ?_ | refine bD ?_ | refine bN ?_))) hsr hlr hU.x hU.y H1)).mono ?_); rintro e w' ⟨rfl, x, rfl⟩) | (go_at_call 31; (first | (with_reducible refine (calls_ov2 (impl_SpotOk_eq H2.out hS.x hS.y hS.d)).mono ?_) | refine (calls_ov (impl_SpotOk_eq H2.out hS.x hS.y hS.d)).mono ?_); rintro e w' ⟨rfl, x, rfl⟩) | (go_at_call 51; (first | (with_reducible refine (calls_ov2 (impl_RegionOk_eq (Rp.below (by repeat (first | exact bR | refine bO ?_ | refine bA ?_ | refine bS ?_ | refine bD ?_ | refine bN ?_))) hlp H3)).mono ?_) | refine (calls_ov (impl_RegionOk_eq (Rp.below (by repeat (first | exact bR | refine bO ?_ | refine bA ?_ | refine bS ?_ | refine bD ?_ | refine bN ?_))) hlp H3)).mono ?_); rintro e w' ⟨rfl, x, rfl⟩))
      go_ret
      exact ⟨rfl, (by repeat (first | exact bR | refine bO ?_ | refine bA ?_ | refine bS ?_ | refine bD ?_ | refine bN ?_))⟩
  have hm := isInput_room h1
  have P := roomOk_parts hm
  have GN := (region_good P.nk).1
  have ln := (region_good P.nk).2
  have GP := (region_good h3).1
  have lp := (region_good h3).2
  have ks := corners_spots P.nk
  have hcl := cornersL_length r.ns
  have HM := Lib.hid hm
  have KP := Lib.hid P
  obtain ⟨F, hF⟩ : ∃ F, F = stepH r x1 y1 d1 n1 u1 p := ⟨_, rfl⟩
  rw [← hF] at hk
  have HCN := Lib.hid (fun W A c (R : R3 44 W A c r.ns) => corners_any GN R (by omega))
  obtain ⟨cs, hcs⟩ : ∃ cs, cornersL r.ns = cs := ⟨_, rfl⟩
  rw [hcs] at ks hcl hk HCN
  have hv : cs.all F = v := by simpa using hk
  have HV := Lib.hid hv
  have KS := Lib.hid ks
  have HF := Lib.hid hF
  have HCL := Lib.hid hcl
  have GPH := Lib.hid GP
  clear hcs ks hk hv h1 h2 h3 hm P GN hF hcl GP
  go_enter Tryz.func32, Tryz.ntmps32
  go_wp2_with fail
  obtain ⟨V, hV⟩ : ∃ V, ((((w.alloc (.cells #[.slice Ar1 r.m.length cr1, .int .i64 r.q, .int .i64 r.bx, .int .i64 r.by_, .int .i64 r.lo, .int .i64 r.hi, .slice Ar2 r.ns.length cr2, .slice Ar3 r.ls.length cr3] 28)).alloc (.cells #[.int .i64 x1, .int .i64 y1, .int .i64 d1] 52)).alloc (.cells #[.int .i64 n1, .int .i64 u1] 54)).alloc (.cells #[.slice Ap p.length cp] 26)) = V := ⟨_, rfl⟩
  have TV : Below w.heap.size w V := by rw [← hV]; exact (by repeat (first | exact bR | refine bO ?_ | refine bA ?_ | refine bS ?_ | refine bD ?_ | refine bN ?_))
  have X0 : V.heap[w.heap.size]? = some (.cells #[.slice Ar1 r.m.length cr1, .int .i64 r.q, .int .i64 r.bx, .int .i64 r.by_, .int .i64 r.lo, .int .i64 r.hi, .slice Ar2 r.ns.length cr2, .slice Ar3 r.ls.length cr3] 28 (0, 0)) := by rw [← hV]; exact ((heap_old_at (by first | (simp; done) | (simp <;> omega))).trans ((heap_old_at (by first | (simp; done) | (simp <;> omega))).trans ((heap_old_at (by first | (simp; done) | (simp <;> omega))).trans (heap_new_at (by first | (simp; done) | (simp <;> omega)) rfl))))
  have X1 : V.heap[w.heap.size + 1]? = some (.cells #[.int .i64 x1, .int .i64 y1, .int .i64 d1] 52 (0, 0)) := by rw [← hV]; exact ((heap_old_at (by first | (simp; done) | (simp <;> omega))).trans ((heap_old_at (by first | (simp; done) | (simp <;> omega))).trans (heap_new_at (by first | (simp; done) | (simp <;> omega)) rfl)))
  have X2 : V.heap[w.heap.size + 1 + 1]? = some (.cells #[.int .i64 n1, .int .i64 u1] 54 (0, 0)) := by rw [← hV]; exact ((heap_old_at (by first | (simp; done) | (simp <;> omega))).trans (heap_new_at (by first | (simp; done) | (simp <;> omega)) rfl))
  have X3 : V.heap[w.heap.size + 1 + 1 + 1]? = some (.cells #[.slice Ap p.length cp] 26 (0, 0)) := by rw [← hV]; exact (heap_new_at (by first | (simp; done) | (simp <;> omega)) rfl)
  rw [hV]
  clear hV
  have hbb3 : w.heap.size ≤ w.heap.size + 1 + 1 + 1 := by omega
  generalize w.heap.size + 1 + 1 + 1 = ba3 at X3 hbb3 ⊢
  have hbb2 : w.heap.size ≤ w.heap.size + 1 + 1 := by omega
  generalize w.heap.size + 1 + 1 = ba2 at X2 hbb2 ⊢
  have hbb1 : w.heap.size ≤ w.heap.size + 1 := by omega
  generalize w.heap.size + 1 = ba1 at X1 hbb1 ⊢
  obtain ⟨W0, hW⟩ : ∃ W0, W0 = V := ⟨_, rfl⟩
  rw [← hW]
  have T : Below V.heap.size V W0 := by rw [hW]; exact Below.refl _ _
  clear hW
  have Br := box_below (Lib.hid X0) T
  clear X0
  have Bs := box_below (Lib.hid X1) T
  clear X1
  have Bu := box_below (Lib.hid X2) T
  clear X2
  have Bp := box_below (Lib.hid X3) T
  clear X3
  have s0 : w.heap.size ≤ V.heap.size := TV.size
  obtain ⟨ba0, hba0⟩ : ∃ b, w.heap.size = b := ⟨_, rfl⟩
  rw [hba0] at Br
  try rw [hba0]
  have Sr := Rr.below (TV.trans (T.mono s0))
  have Sp := Rp.below (TV.trans (T.mono s0))
  refine (calls_ov (impl_IsInput_eq (Sr.below (by repeat (first | exact bR | refine bO ?_ | refine bA ?_ | refine bS ?_ | refine bD ?_ | refine bN ?_))) hsr hlr hU.x hU.y H1)).mono ?_
  rintro e w' ⟨rfl, x, rfl⟩
  obtain ⟨W1, hW⟩ : ∃ W1, W1 = ov W0 x := ⟨_, rfl⟩
  rw [← hW]
  have K : Below W0.heap.size W0 W1 := by rw [hW]; exact (by repeat (first | exact bR | refine bO ?_ | refine bA ?_ | refine bS ?_ | refine bD ?_ | refine bN ?_))
  clear hW
  replace T := T.trans (K.mono T.size)
  replace Br := box_below Br K
  replace Bs := box_below Bs K
  replace Bu := box_below Bu K
  replace Bp := box_below Bp K
  clear K Sr Sp
  have Sr := Rr.below (TV.trans (T.mono s0))
  have Sp := Rp.below (TV.trans (T.mono s0))
  obtain ⟨Brc0, Brc1, Brc2, Brc3, Brc4, Brc5, Brc6, Brc7, Brl⟩ := cb8 Br
  obtain ⟨Bsc0, Bsc1, Bsc2, Bsl⟩ := cb3 Bs
  obtain ⟨Buc0, Buc1, Bul⟩ := cb2 Bu
  obtain ⟨Bpc0, Bpl⟩ := cb1 Bp
  go_wp2_with fail
  clear Brc0 Brc1 Brc2 Brc3 Brc4 Brc5 Brc6 Brc7 Bsc0 Bsc1 Bsc2 Buc0 Buc1 Bpc0 Brl Bsl Bul Bpl
  refine (calls_ov (impl_SpotOk_eq H2.out hS.x hS.y hS.d)).mono ?_
  rintro e w' ⟨rfl, x, rfl⟩
  obtain ⟨W2, hW⟩ : ∃ W2, W2 = ov W1 x := ⟨_, rfl⟩
  rw [← hW]
  have K : Below W1.heap.size W1 W2 := by rw [hW]; exact (by repeat (first | exact bR | refine bO ?_ | refine bA ?_ | refine bS ?_ | refine bD ?_ | refine bN ?_))
  clear hW
  replace T := T.trans (K.mono T.size)
  replace Br := box_below Br K
  replace Bs := box_below Bs K
  replace Bu := box_below Bu K
  replace Bp := box_below Bp K
  clear K Sr Sp
  have Sr := Rr.below (TV.trans (T.mono s0))
  have Sp := Rp.below (TV.trans (T.mono s0))
  obtain ⟨Brc0, Brc1, Brc2, Brc3, Brc4, Brc5, Brc6, Brc7, Brl⟩ := cb8 Br
  obtain ⟨Bsc0, Bsc1, Bsc2, Bsl⟩ := cb3 Bs
  obtain ⟨Buc0, Buc1, Bul⟩ := cb2 Bu
  obtain ⟨Bpc0, Bpl⟩ := cb1 Bp
  go_wp2_with fail
  clear Brc0 Brc1 Brc2 Brc3 Brc4 Brc5 Brc6 Brc7 Bsc0 Bsc1 Bsc2 Buc0 Buc1 Bpc0 Brl Bsl Bul Bpl
  refine (calls_ov (impl_RegionOk_eq (Sp.below (by repeat (first | exact bR | refine bO ?_ | refine bA ?_ | refine bS ?_ | refine bD ?_ | refine bN ?_))) hlp H3)).mono ?_
  rintro e w' ⟨rfl, x, rfl⟩
  obtain ⟨W3, hW⟩ : ∃ W3, W3 = ov W2 x := ⟨_, rfl⟩
  rw [← hW]
  have K : Below W2.heap.size W2 W3 := by rw [hW]; exact (by repeat (first | exact bR | refine bO ?_ | refine bA ?_ | refine bS ?_ | refine bD ?_ | refine bN ?_))
  clear hW
  replace T := T.trans (K.mono T.size)
  replace Br := box_below Br K
  replace Bs := box_below Bs K
  replace Bu := box_below Bu K
  replace Bp := box_below Bp K
  clear K Sr Sp
  have Sr := Rr.below (TV.trans (T.mono s0))
  have Sp := Rp.below (TV.trans (T.mono s0))
  obtain ⟨Brc0, Brc1, Brc2, Brc3, Brc4, Brc5, Brc6, Brc7, Brl⟩ := cb8 Br
  obtain ⟨Bsc0, Bsc1, Bsc2, Bsl⟩ := cb3 Bs
  obtain ⟨Buc0, Buc1, Bul⟩ := cb2 Bu
  obtain ⟨Bpc0, Bpl⟩ := cb1 Bp
  go_wp2_with fail
  clear Brc0 Brc1 Brc2 Brc3 Brc4 Brc5 Brc6 Brc7 Bsc0 Bsc1 Bsc2 Buc0 Buc1 Bpc0 Brl Bsl Bul Bpl
  refine (HCN.out _ _ _ (Sr.nr.below (by repeat (first | exact bR | refine bO ?_ | refine bA ?_ | refine bS ?_ | refine bD ?_ | refine bN ?_)))).mono ?_
  rintro e W4 ⟨ac, dc, rfl, Xc, hb⟩
  have K : Below W3.heap.size W3 W4 := Below.trans (by repeat (first | exact bR | refine bO ?_ | refine bA ?_ | refine bS ?_ | refine bD ?_ | refine bN ?_)) (hb.mono (by first | exact Nat.le_refl _ | simp [ov_size]))
  replace Xc := Xc.weak (B' := V.heap.size) (by have := T.size; (try simp [ov_size]); omega)
  clear hb
  replace T := T.trans (K.mono T.size)
  replace Br := box_below Br K
  replace Bs := box_below Bs K
  replace Bu := box_below Bu K
  replace Bp := box_below Bp K
  clear K Sr Sp
  have Sr := Rr.below (TV.trans (T.mono s0))
  have Sp := Rp.below (TV.trans (T.mono s0))
  obtain ⟨Brc0, Brc1, Brc2, Brc3, Brc4, Brc5, Brc6, Brc7, Brl⟩ := cb8 Br
  obtain ⟨Bsc0, Bsc1, Bsc2, Bsl⟩ := cb3 Bs
  obtain ⟨Buc0, Buc1, Bul⟩ := cb2 Bu
  obtain ⟨Bpc0, Bpl⟩ := cb1 Bp
  go_wp2
  clear Brc0 Brc1 Brc2 Brc3 Brc4 Brc5 Brc6 Brc7 Bsc0 Bsc1 Bsc2 Buc0 Buc1 Bpc0 Brl Bsl Bul Bpl
  go_loopw [31] (fun i wr => ∃ k : Nat, k ≤ r.ns.length ∧ i = .int .i64 k ∧ Hid ((cs.take k).all F = true) ∧ Below W4.heap.size W4 wr) (fun i _ => r.ns.length - (intOf i).toNat)
  case atStart => exact ⟨0, Nat.zero_le _, rfl, Lib.hid rfl, Below.refl _ _⟩
  case round =>
    obtain ⟨k, hk, rfl, HA, K⟩ := hrel
    have K0 := K
    have k0s := K0.size
    replace T := T.trans (K.mono T.size)
    replace Br := box_below Br K
    replace Bs := box_below Bs K
    replace Bu := box_below Bu K
    replace Bp := box_below Bp K
    replace Xc := Xc.below K
    clear K Sr Sp
    have Sr := Rr.below (TV.trans (T.mono s0))
    have Sp := Rp.below (TV.trans (T.mono s0))
    have hcl := HCL.out
    by_cases hlt : k < r.ns.length
    · have hlc : k < cs.length := by omega
      obtain ⟨g0, rfl, hg0, z0, z1, z2⟩ := (Xc.r3).at_ hlc
      have kc := KS.out _ (List.getElem_mem hlc)
      have KT := spotB_of kc
      have HT := Lib.hid (all_take_succ F cs k hlc)
      obtain ⟨⟨⟨q1, q2, q3⟩, ok⟩, hn⟩ : ∃ x, nextT r x1 y1 d1 n1 u1 cs[k].a cs[k].b cs[k].c = x := ⟨_, rfl⟩
      have HN := Lib.hid hn
      have hFk : F cs[k] = (ok && hasL p ⟨q1, q2, q3⟩) := by rw [HF.out]; unfold stepH; rw [hn]; rfl
      cases ok with
      | false =>
        obtain rfl : v = false := by rw [← HV.out]; exact step_false hlc hFk
        clear hn hFk hcl
        obtain ⟨Brc0, Brc1, Brc2, Brc3, Brc4, Brc5, Brc6, Brc7, Brl⟩ := cb8 Br
        obtain ⟨Bsc0, Bsc1, Bsc2, Bsl⟩ := cb3 Bs
        obtain ⟨Buc0, Buc1, Bul⟩ := cb2 Bu
        obtain ⟨Bpc0, Bpl⟩ := cb1 Bp
        go_wp2_with (first | (go_at_call 72; (first | (with_reducible refine (calls_ov2 (next_eq (Sr.mr.below (by repeat (first | exact bR | refine bO ?_ | refine bA ?_ | refine bS ?_ | refine bD ?_ | refine bN ?_))) KP.out hS hU KT HN)).mono ?_) | refine (calls_ov (next_eq (Sr.mr.below (by repeat (first | exact bR | refine bO ?_ | refine bA ?_ | refine bS ?_ | refine bD ?_ | refine bN ?_))) KP.out hS hU KT HN)).mono ?_); rintro e w' ⟨rfl, x, rfl⟩))
        go_ret
        exact ⟨rfl, (by repeat (first | exact TV.trans (T.mono s0) | refine bO ?_ | refine bA ?_ | refine bS ?_ | refine bD ?_ | refine bN ?_))⟩
      | true =>
        have kq := nextT_spot hn
        obtain ⟨u, hu⟩ : ∃ u, hasL p ⟨q1, q2, q3⟩ = u := ⟨_, rfl⟩
        have HC : Hid (∀ W, R3 44 W Ap cp p → Calls Tryz.prog 69 #[.agg #[.slice Ap p.length cp], .agg #[.int .i64 q1, .int .i64 q2, .int .i64 q3]] W fun e w' => e = .returned (.bool u) ∧ Below W.heap.size W w') := Lib.hid (fun W RW => holds_eq (s := ⟨q1, q2, q3⟩) GPH.out kq RW (by omega) (Lib.hid hu))
        rw [hu] at hFk
        cases u with
        | false =>
          obtain rfl : v = false := by rw [← HV.out]; exact step_false hlc hFk
          clear hn hFk hcl hu kq
          obtain ⟨Brc0, Brc1, Brc2, Brc3, Brc4, Brc5, Brc6, Brc7, Brl⟩ := cb8 Br
          obtain ⟨Bsc0, Bsc1, Bsc2, Bsl⟩ := cb3 Bs
          obtain ⟨Buc0, Buc1, Bul⟩ := cb2 Bu
          obtain ⟨Bpc0, Bpl⟩ := cb1 Bp
          go_wp2_with (first | (go_at_call 72; (first | (with_reducible refine (calls_ov2 (next_eq (Sr.mr.below (by repeat (first | exact bR | refine bO ?_ | refine bA ?_ | refine bS ?_ | refine bD ?_ | refine bN ?_))) KP.out hS hU KT HN)).mono ?_) | refine (calls_ov (next_eq (Sr.mr.below (by repeat (first | exact bR | refine bO ?_ | refine bA ?_ | refine bS ?_ | refine bD ?_ | refine bN ?_))) KP.out hS hU KT HN)).mono ?_); rintro e w' ⟨rfl, x, rfl⟩) | (go_at_call 69; (first | (with_reducible refine (calls_ov2 (HC.out _ (Sp.below (by repeat (first | exact bR | refine bO ?_ | refine bA ?_ | refine bS ?_ | refine bD ?_ | refine bN ?_))))).mono ?_) | refine (calls_ov (HC.out _ (Sp.below (by repeat (first | exact bR | refine bO ?_ | refine bA ?_ | refine bS ?_ | refine bD ?_ | refine bN ?_))))).mono ?_); rintro e w' ⟨rfl, x, rfl⟩))
          go_ret
          exact ⟨rfl, (by repeat (first | exact TV.trans (T.mono s0) | refine bO ?_ | refine bA ?_ | refine bS ?_ | refine bD ?_ | refine bN ?_))⟩
        | true =>
          have HN2 : Hid ((cs.take (k + 1)).all F = true) := Lib.hid (by rw [HT.out, HA.out, hFk]; rfl)
          clear hn hFk hcl hu kq
          obtain ⟨Brc0, Brc1, Brc2, Brc3, Brc4, Brc5, Brc6, Brc7, Brl⟩ := cb8 Br
          obtain ⟨Bsc0, Bsc1, Bsc2, Bsl⟩ := cb3 Bs
          obtain ⟨Buc0, Buc1, Bul⟩ := cb2 Bu
          obtain ⟨Bpc0, Bpl⟩ := cb1 Bp
          go_wp2_with (first | (go_at_call 72; (first | (with_reducible refine (calls_ov2 (next_eq (Sr.mr.below (by repeat (first | exact bR | refine bO ?_ | refine bA ?_ | refine bS ?_ | refine bD ?_ | refine bN ?_))) KP.out hS hU KT HN)).mono ?_) | refine (calls_ov (next_eq (Sr.mr.below (by repeat (first | exact bR | refine bO ?_ | refine bA ?_ | refine bS ?_ | refine bD ?_ | refine bN ?_))) KP.out hS hU KT HN)).mono ?_); rintro e w' ⟨rfl, x, rfl⟩) | (go_at_call 69; (first | (with_reducible refine (calls_ov2 (HC.out _ (Sp.below (by repeat (first | exact bR | refine bO ?_ | refine bA ?_ | refine bS ?_ | refine bD ?_ | refine bN ?_))))).mono ?_) | refine (calls_ov (HC.out _ (Sp.below (by repeat (first | exact bR | refine bO ?_ | refine bA ?_ | refine bS ?_ | refine bD ?_ | refine bN ?_))))).mono ?_); rintro e w' ⟨rfl, x, rfl⟩))
          go_roundw
          case rel => exact ⟨k + 1, by omega, by go_num, HN2, (by repeat (first | exact K0 | refine bO ?_ | refine bA ?_ | refine bS ?_ | refine bD ?_ | refine bN ?_))⟩
          case measure => simp [intOf] <;> omega
    · obtain rfl : k = r.ns.length := by omega
      obtain rfl : v = true := by rw [← HV.out, ← HA.out, ← hcl, List.take_length]
      go_wp2
      go_ret
      exact ⟨rfl, (by repeat (first | exact TV.trans (T.mono s0) | refine bO ?_ | refine bA ?_ | refine bS ?_ | refine bD ?_ | refine bN ?_))⟩

end Go.Proofs.YtabmfaamadbefaaGreat