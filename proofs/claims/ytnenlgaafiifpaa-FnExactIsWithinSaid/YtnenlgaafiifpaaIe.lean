/- Contract of the reference's l05IsEdge: the scan of the crossings. Condition: the half planes are valid, and few. -/
import Derived.Test.YtnenlgaafiifpaaMe
import Derived.Test.YtnenlgaafiifpaaRst
set_option linter.unusedSimpArgs false
set_option linter.unusedVariables false
set_option linter.unusedSectionVars false
namespace Go.Proofs.Ytnenlgaafiifpaa
open Go.RowKit

theorem scanE_snoc (L : List H3) (h : H3) (l : List H3) (g : H3) : scanE L h (l ++ [g]) = stepE L h (scanE L h l) g := by
  unfold scanE; rw [List.foldl_append]; rfl
theorem scanE_succ (L : List H3) (h : H3) (k j : Nat) (hj : j < L.length) (hne : j ≠ k) : scanE L h ((L.take (j + 1)).eraseIdx k) = stepE L h (scanE L h ((L.take j).eraseIdx k)) L[j] := by
  rw [take_erase_succ L k j hj hne, scanE_snoc]
theorem stepE_true (L : List H3) (h g : H3) {st : Option P3 × Bool} (e : st.2 = true) : stepE L h st g = st := by
  unfold stepE; rw [if_pos e]
theorem foldE_true (L : List H3) (h : H3) : ∀ (m : List H3) (st : Option P3 × Bool), st.2 = true → (m.foldl (stepE L h) st).2 = true
  | [], st, e => e
  | g :: r, st, e => by
    show (r.foldl (stepE L h) (stepE L h st g)).2 = true
    rw [stepE_true L h g e]; exact foldE_true L h r st e
theorem scanE_app (L : List H3) (h : H3) (l m : List H3) (e : (scanE L h l).2 = true) : (scanE L h (l ++ m)).2 = true := by
  unfold scanE at *; rw [List.foldl_append]; exact foldE_true L h m _ e
theorem scanE_all (L : List H3) (h : H3) (k j : Nat) (hj : j < L.length) (hne : j ≠ k) (e : (scanE L h ((L.take (j + 1)).eraseIdx k)).2 = true) : (scanE L h (L.eraseIdx k)).2 = true := by
  by_cases hk : k < j + 1
  · have : L.eraseIdx k = (L.take (j + 1)).eraseIdx k ++ L.drop (j + 1) := by
      conv => lhs; rw [← List.take_append_drop (j + 1) L]
      rw [List.eraseIdx_append_of_lt_length (by simp; omega)]
    rw [this]; exact scanE_app _ _ _ _ e
  · have h1 : (L.take (j + 1)).eraseIdx k = L.take (j + 1) := List.eraseIdx_of_length_le (by simp; omega)
    have : L.eraseIdx k = L.take (j + 1) ++ (L.drop (j + 1)).eraseIdx (k - (j + 1)) := by
      conv => lhs; rw [← List.take_append_drop (j + 1) L]
      rw [List.eraseIdx_append_of_length_le (by simp; omega)]
      congr 2; simp; omega
    rw [this]; rw [h1] at e; exact scanE_app _ _ _ _ e
structure PBd (p : P3) : Prop where
  b1 : -10000000000000 ≤ p.1 ∧ p.1 ≤ 10000000000000
  b2 : -10000000000000 ≤ p.2.1 ∧ p.2.1 ≤ 10000000000000
  b3 : 0 ≤ p.2.2 ∧ p.2.2 ≤ 5000000000
theorem crossI_pbd {h g : H3} (kh : HOk h) (kg : HOk g) : PBd (crossI h g) := by
  have m := mark_parts kh kg
  refine ⟨m.1, m.2.1, ?_, crossI_bd kh kg⟩
  unfold crossI
  by_cases hc : cross h g < 0
  · rw [if_pos hc]; simp only; omega
  · rw [if_neg hc]; simp only; omega
theorem stepE_out {L : List H3} {h g : H3} {fo : Option P3} (e : insideI L (crossI h g) = false) : stepE L h (fo, false) g = (fo, false) := by unfold stepE; simp [e]
theorem stepE_first {L : List H3} {h g : H3} {p : P3} (hp : crossI h g = p) (e : insideI L p = true) : stepE L h (none, false) g = (some p, false) := by unfold stepE; simp [e, hp]
theorem stepE_next {L : List H3} {h g : H3} {p q : P3} {v : Bool} (hp : crossI h g = p) (e : insideI L p = true) (hd : decide (sp q ≠ sp p) = v) : stepE L h (some q, false) g = (some q, v) := by
  unfold stepE
  simp only [hp, e]
  rw [← hd]; rfl
theorem insideI_d {L : List H3} {p : P3} (e : insideI L p = true) : p.2.2 ≠ 0 := ((insideI_iff L p).1 e).1
theorem set3_blk {w : World} {b : Nat} {a c d x y z : Value} {T : TypeId} (h : w.heap[b]? = some (.cells #[a, c, d] T (0, 0))) : (((w.setCell ⟨b, 0, none⟩ x).setCell ⟨b, 1, none⟩ y).setCell ⟨b, 2, none⟩ z).heap[b]? = some (.cells #[x, y, z] T (0, 0)) :=
  heap_setCell_same _ _ _ _ _ _ (heap_setCell_same _ _ _ _ _ _ (heap_setCell_same _ _ _ _ _ _ h))
theorem wpRel_nilB {P : Program} {ops : Array Oper} {Q : Exit → Act → World → Prop} {w0 : World} {Rs : List RD} {vs : Nat → Value} {i : Nat} {a : Act} (h : ∀ w', Below w0.heap.size w0 w' → (∀ j, holds w0 Rs vs j w') → Q .normal a w') : wpRel P ops Q w0 Rs vs i [] a :=
  fun w' ⟨x, hx⟩ hh => h w' (by subst hx; exact below_ov _ _ (Below.refl _ _) (Nat.le_refl _)) hh
def firstV (fo : Option P3) : Array Value := #[.int .i64 (fo.getD (0, 0, 0)).1, .int .i64 (fo.getD (0, 0, 0)).2.1, .int .i64 (fo.getD (0, 0, 0)).2.2]

set_option maxRecDepth 100000 in
set_option maxHeartbeats 4000000 in
theorem l05IsEdge_any {L : List H3} {k : Nat} {A : Option Addr} {c : Nat} {w : World} (G : ∀ g ∈ L, HOk g) (hk : k < L.length) (R : R3 38 w A c L) (hl : L.length ≤ 1000) :
    Calls Try.prog 114 #[.slice A L.length c, .int .i64 k] w fun e w' => e = .returned (.bool (edgeE L k L[k])) ∧ Below w.heap.size w w' := by
  have kh := G _ (List.getElem_mem hk)
  go_enter Try.func114, Try.ntmps114
  go_wp2
  go_loopw [12] (fun i wr => ∃ (j : Nat) (fo : Option P3), j ≤ L.length ∧ i = .int .i64 j ∧ Hid (scanE L L[k] ((L.take j).eraseIdx k) = (fo, false)) ∧ Hid (∀ q, fo = some q → q.2.2 ≠ 0 ∧ PBd q) ∧ Hid (wr.heap[w.heap.size]? = some (.cells (firstV fo) 138 (0, 0))) ∧ Below w.heap.size w wr) (fun i _ => L.length - (intOf i).toNat)
  case atStart => exact ⟨0, none, Nat.zero_le _, rfl, Lib.hid (by simp [scanE]), Lib.hid (fun q h => by cases h), Lib.hid (heap_alloc_new _ _), (Below.refl _ _).alloc (Nat.le_refl _) _⟩
  case round =>
    obtain ⟨j, fo, hj, rfl, HS, HF, HX, hb⟩ := hrel
    have hbs := hb.size
    have hF := (Array.getElem?_eq_some_iff.1 HX.out).1
    by_cases hlt : j < L.length
    · have RLw := R.below hb
      obtain ⟨gA, eA, hgA, z0, z1, z2⟩ := RLw.at_ hlt
      obtain ⟨gB, eB, hgB, y0, y1, y2⟩ := RLw.at_ hk
      obtain rfl : gB = gA := by rw [eA] at eB; injection eB with e; injection e with e; exact e.symm
      clear eB
      subst eA
      by_cases hjk : j = k
      · subst hjk
        have HN := Lib.hid ((congrArg (scanE L L[j]) (take_erase_same L j)).trans HS.out)
        go_wp2
        go_roundw
        case rel => exact ⟨j + 1, fo, by omega, by go_num, HN, HF, Lib.hid (alloc_blk HX.out), (by repeat (first | exact hb | refine below_ov _ _ ?_ (by first | omega | (simp [ov_size] <;> omega)) | refine Below.alloc ?_ (by first | omega | (simp [ov_size] <;> omega)) _ | refine Below.setCell ?_ (by first | omega | (simp [ov_size] <;> omega)) _ | refine Below.drew ?_ | refine below_drewN ?_ _))⟩
        case measure => simp [intOf]; omega
      · have kg := G _ (List.getElem_mem hlt)
        have hjk' : ((j : Int) == (k : Int)) = false := by simp; omega
        obtain ⟨p, hp⟩ : ∃ p, crossI L[k] L[j] = p := ⟨_, rfl⟩
        have pb := crossI_pbd kh kg
        rw [hp] at pb
        have HP := Lib.hid hp
        have HN := Lib.hid (scanE_succ L L[k] k j hlt hjk)
        obtain ⟨ins, hins⟩ : ∃ v, insideI L p = v := ⟨_, rfl⟩
        have HI := Lib.hid hins
        have b1 := pb.b1
        have b2 := pb.b2
        have b3 := pb.b3
        clear hp hins hjk
        go_wp2
        refine wp_region_rel [.pur [] ?c0, .pur [] ?c1, .pur [] ?c2, .pur [] ?c3, .pur [] ?c4, .pur [] ?c5, .rel [] [6] false (IsAl 138 3), .rel [6, 5] [6, 5] true (IsSt 138)] _ rfl rfl (by kernel_rfl) (by kernel_rfl) ?hst (fun vs => ?walk)
        case' walk =>
          (refine wpRel_pur rfl rfl (fun x => by ((go_wp2); refine relEnd_pur rfl ?_ (by repeat (first | exact Below.refl _ _ | refine below_ov _ _ ?_ (by first | omega | (simp [ov_size] <;> omega)) | refine Below.alloc ?_ (by first | omega | (simp [ov_size] <;> omega)) _ | refine Below.setCell ?_ (by first | omega | (simp [ov_size] <;> omega)) _ | refine Below.drew ?_ | refine below_drewN ?_ _)); simp only [Act.put, List.setIfInBounds_toArray, List.set_cons_succ, List.set_cons_zero]; rfl)) ?_; simp only [Act.put, List.setIfInBounds_toArray, List.set_cons_succ, List.set_cons_zero])
          (refine wpRel_pur rfl rfl (fun x => by ((go_wp2); refine relEnd_pur rfl ?_ (by repeat (first | exact Below.refl _ _ | refine below_ov _ _ ?_ (by first | omega | (simp [ov_size] <;> omega)) | refine Below.alloc ?_ (by first | omega | (simp [ov_size] <;> omega)) _ | refine Below.setCell ?_ (by first | omega | (simp [ov_size] <;> omega)) _ | refine Below.drew ?_ | refine below_drewN ?_ _)); simp only [Act.put, List.setIfInBounds_toArray, List.set_cons_succ, List.set_cons_zero]; rfl)) ?_; simp only [Act.put, List.setIfInBounds_toArray, List.set_cons_succ, List.set_cons_zero])
          (refine wpRel_pur rfl rfl (fun x => by ((go_wp2); refine relEnd_pur rfl ?_ (by repeat (first | exact Below.refl _ _ | refine below_ov _ _ ?_ (by first | omega | (simp [ov_size] <;> omega)) | refine Below.alloc ?_ (by first | omega | (simp [ov_size] <;> omega)) _ | refine Below.setCell ?_ (by first | omega | (simp [ov_size] <;> omega)) _ | refine Below.drew ?_ | refine below_drewN ?_ _)); simp only [Act.put, List.setIfInBounds_toArray, List.set_cons_succ, List.set_cons_zero]; rfl)) ?_; simp only [Act.put, List.setIfInBounds_toArray, List.set_cons_succ, List.set_cons_zero])
          (refine wpRel_pur rfl rfl (fun x => by ((go_wp2); refine relEnd_pur rfl ?_ (by repeat (first | exact Below.refl _ _ | refine below_ov _ _ ?_ (by first | omega | (simp [ov_size] <;> omega)) | refine Below.alloc ?_ (by first | omega | (simp [ov_size] <;> omega)) _ | refine Below.setCell ?_ (by first | omega | (simp [ov_size] <;> omega)) _ | refine Below.drew ?_ | refine below_drewN ?_ _)); simp only [Act.put, List.setIfInBounds_toArray, List.set_cons_succ, List.set_cons_zero]; rfl)) ?_; simp only [Act.put, List.setIfInBounds_toArray, List.set_cons_succ, List.set_cons_zero])
          (refine wpRel_pur rfl rfl (fun x => by ((go_wp2); refine relEnd_pur rfl ?_ (by repeat (first | exact Below.refl _ _ | refine below_ov _ _ ?_ (by first | omega | (simp [ov_size] <;> omega)) | refine Below.alloc ?_ (by first | omega | (simp [ov_size] <;> omega)) _ | refine Below.setCell ?_ (by first | omega | (simp [ov_size] <;> omega)) _ | refine Below.drew ?_ | refine below_drewN ?_ _)); simp only [Act.put, List.setIfInBounds_toArray, List.set_cons_succ, List.set_cons_zero]; rfl)) ?_; simp only [Act.put, List.setIfInBounds_toArray, List.set_cons_succ, List.set_cons_zero])
          (refine wpRel_pur rfl rfl (fun x => by ((go_wp2_with (first | (go_at_call 149; refine (calls_ov (l05Cross_eq kh kg HP)).mono ?_; rintro e w' ⟨rfl, x, rfl⟩))); refine relEnd_pur rfl ?_ (by repeat (first | exact Below.refl _ _ | refine below_ov _ _ ?_ (by first | omega | (simp [ov_size] <;> omega)) | refine Below.alloc ?_ (by first | omega | (simp [ov_size] <;> omega)) _ | refine Below.setCell ?_ (by first | omega | (simp [ov_size] <;> omega)) _ | refine Below.drew ?_ | refine below_drewN ?_ _)); simp only [Act.put, List.setIfInBounds_toArray, List.set_cons_succ, List.set_cons_zero]; rfl)) ?_; simp only [Act.put, List.setIfInBounds_toArray, List.set_cons_succ, List.set_cons_zero])
          refine wpRel_al #[.int .i64 0, .int .i64 0, .int .i64 0] rfl rfl rfl rfl rfl rfl (fun w => by simp [go_sem]) ?_
          simp only [Act.put, List.setIfInBounds_toArray, List.set_cons_succ, List.set_cons_zero]
          refine wpRel_st rfl rfl rfl rfl rfl rfl (by decide) (by decide) rfl rfl (by kernel_rfl) ⟨rfl, by simp [Value.cells, Value.oneCell']⟩ (by repeat (first | exact all_nil | refine all_cons trivial ?_ | refine all_cons isAl_steady ?_ | refine all_cons (isOw_steady (by assumption)) ?_)) ?_
          refine wpRel_nilB (fun wp hbp0 hh => ?_)
          obtain ⟨nb, e, hnb, hx⟩ := isSt_pur (hh 7) rfl rfl rfl
          simp only [e]
          clear hh e
          have hbp : Below w.heap.size w wp := ((by repeat (first | exact hb | refine below_ov _ _ ?_ (by first | omega | (simp [ov_size] <;> omega)) | refine Below.alloc ?_ (by first | omega | (simp [ov_size] <;> omega)) _ | refine Below.setCell ?_ (by first | omega | (simp [ov_size] <;> omega)) _ | refine Below.drew ?_ | refine below_drewN ?_ _)) : Below w.heap.size w (wr.alloc (.cells #[.int .i64 L[j].a, .int .i64 L[j].b, .int .i64 L[j].c] 38))).trans (hbp0.mono (by simp; omega))
          have HXp := Lib.hid ((hbp0.block w.heap.size (by simp; omega)).trans (alloc_blk HX.out))
          have RLp := R.below hbp
          have p0 := cell_blk (j := 0) hx rfl
          have p1 := cell_blk (j := 1) hx rfl
          have p2 := cell_blk (j := 2) hx rfl
          have pl := (Array.getElem?_eq_some_iff.1 hx).1
          have hbF : nb ≠ w.heap.size := by simp at hnb; omega
          have hFp := (Array.getElem?_eq_some_iff.1 HXp.out).1
          clear hx vs hbp0 hnb HX hb z0 z1 z2 y0 y1 y2 RLw
          cases ins with
          | false =>
            go_wp2_with ((go_at_call 150; (first | (with_reducible refine (calls_ov2 (l05Inside_eq G RLp hl b1 b2 b3 HI)).mono ?_) | refine (calls_ov (l05Inside_eq G RLp hl b1 b2 b3 HI)).mono ?_); rintro e w' ⟨rfl, x, rfl⟩))
            go_roundw
            case rel => exact ⟨j + 1, fo, by omega, by go_num, Lib.hid (by rw [HN.out, HS.out]; exact stepE_out (by rw [HP.out]; exact HI.out)), HF, Lib.hid (ov_blk HXp.out), (by repeat (first | exact hbp | refine below_ov _ _ ?_ (by first | omega | (simp [ov_size] <;> omega)) | refine Below.alloc ?_ (by first | omega | (simp [ov_size] <;> omega)) _ | refine Below.setCell ?_ (by first | omega | (simp [ov_size] <;> omega)) _ | refine Below.drew ?_ | refine below_drewN ?_ _))⟩
            case measure => simp [intOf]; omega
          | true =>
            have hpd := insideI_d HI.out
            cases fo with
            | none =>
              have q2 := cell_blk (j := 2) (v := .int .i64 0) HXp.out rfl
              have f0 := frozen_blk (j := 0) HXp.out
              have f1 := frozen_blk (j := 1) HXp.out
              have f2 := frozen_blk (j := 2) HXp.out
              have r0 := cell_blk (j := 0) (v := .int .i64 0) HXp.out rfl
              have r1 := cell_blk (j := 1) (v := .int .i64 0) HXp.out rfl
              go_wp2_with ((go_at_call 150; (first | (with_reducible refine (calls_ov2 (l05Inside_eq G RLp hl b1 b2 b3 HI)).mono ?_) | refine (calls_ov (l05Inside_eq G RLp hl b1 b2 b3 HI)).mono ?_); rintro e w' ⟨rfl, x, rfl⟩))
              go_roundw
              case rel => exact ⟨j + 1, some p, by omega, by go_num, Lib.hid (by rw [HN.out, HS.out]; exact stepE_first HP.out HI.out), Lib.hid (fun q h => by injection h with h; subst h; exact ⟨hpd, pb⟩), Lib.hid (ov_blk (set3_blk HXp.out)), (by repeat (first | exact hbp | refine below_ov _ _ ?_ (by first | omega | (simp [ov_size] <;> omega)) | refine Below.alloc ?_ (by first | omega | (simp [ov_size] <;> omega)) _ | refine Below.setCell ?_ (by first | omega | (simp [ov_size] <;> omega)) _ | refine Below.drew ?_ | refine below_drewN ?_ _))⟩
              case measure => simp [intOf]; omega
            | some q =>
              obtain ⟨hq, qb⟩ := HF.out q rfl
              have hq0 : (q.2.2 == 0) = false := by simpa using hq
              have d1 := qb.b1
              have d2 := qb.b2
              have d3 := qb.b3
              have q0 := cell_blk (j := 0) (v := .int .i64 q.1) HXp.out rfl
              have q1 := cell_blk (j := 1) (v := .int .i64 q.2.1) HXp.out rfl
              have q2 := cell_blk (j := 2) (v := .int .i64 q.2.2) HXp.out rfl
              obtain ⟨v, hv⟩ : ∃ v, decide (sp q ≠ sp p) = v := ⟨_, rfl⟩
              have HV := Lib.hid hv
              clear hv
              cases v with
              | true =>
                go_wp2_with (first | (go_at_call 150; (first | (with_reducible refine (calls_ov2 (l05Inside_eq G RLp hl b1 b2 b3 HI)).mono ?_) | refine (calls_ov (l05Inside_eq G RLp hl b1 b2 b3 HI)).mono ?_); rintro e w' ⟨rfl, x, rfl⟩) | (go_at_call 151; (first | (with_reducible refine (calls_ov2 (l05Differ_eq HV d1 d2 d3 b1 b2 b3)).mono ?_) | refine (calls_ov (l05Differ_eq HV d1 d2 d3 b1 b2 b3)).mono ?_); rintro e w' ⟨rfl, x, rfl⟩))
                go_ret
                refine ⟨ret_bool ?_, (by repeat (first | exact hbp | refine below_ov _ _ ?_ (by first | omega | (simp [ov_size] <;> omega)) | refine Below.alloc ?_ (by first | omega | (simp [ov_size] <;> omega)) _ | refine Below.setCell ?_ (by first | omega | (simp [ov_size] <;> omega)) _ | refine Below.drew ?_ | refine below_drewN ?_ _))⟩
                unfold edgeE
                refine (scanE_all L L[k] k j hlt ?_ ?_).symm
                · intro e; subst e; simp at hjk'
                · rw [HN.out, HS.out, stepE_next HP.out HI.out HV.out]
              | false =>
                go_wp2_with (first | (go_at_call 150; (first | (with_reducible refine (calls_ov2 (l05Inside_eq G RLp hl b1 b2 b3 HI)).mono ?_) | refine (calls_ov (l05Inside_eq G RLp hl b1 b2 b3 HI)).mono ?_); rintro e w' ⟨rfl, x, rfl⟩) | (go_at_call 151; (first | (with_reducible refine (calls_ov2 (l05Differ_eq HV d1 d2 d3 b1 b2 b3)).mono ?_) | refine (calls_ov (l05Differ_eq HV d1 d2 d3 b1 b2 b3)).mono ?_); rintro e w' ⟨rfl, x, rfl⟩))
                go_roundw
                case rel => exact ⟨j + 1, some q, by omega, by go_num, Lib.hid (by rw [HN.out, HS.out]; exact stepE_next HP.out HI.out HV.out), HF, Lib.hid (ov_blk HXp.out), (by repeat (first | exact hbp | refine below_ov _ _ ?_ (by first | omega | (simp [ov_size] <;> omega)) | refine Below.alloc ?_ (by first | omega | (simp [ov_size] <;> omega)) _ | refine Below.setCell ?_ (by first | omega | (simp [ov_size] <;> omega)) _ | refine Below.drew ?_ | refine below_drewN ?_ _))⟩
                case measure => simp [intOf]; omega
        case' hst => exact (by repeat (first | exact all_nil | refine all_cons trivial ?_ | refine all_cons isAl_stable ?_ | refine all_cons isSt_stable ?_ | refine all_cons isStB_stable ?_ | refine all_cons (isOw_stable (by assumption)) ?_))
    · obtain rfl : j = L.length := by omega
      have HE := Lib.hid (show edgeE L k L[k] = false by unfold edgeE; have := HS.out; rw [List.take_length] at this; rw [this])
      go_wp2
      go_ret
      exact ⟨ret_bool HE.out.symm, hb⟩
end Go.Proofs.Ytnenlgaafiifpaa
