/- Regions as lists of half planes, no program: the region of a list of half planes, as the program makes it and as the reference makes it: the same. Condition: valid half planes. -/
import Derived.Test.YtnenlgaafiifpaaGeoE
namespace Go.Proofs.Ytnenlgaafiifpaa

/-- The program's edges: none if somewhere there is no room. -/
def pickI (L : List H3) : Nat → Option (List H3)
  | 0 => some []
  | k + 1 => match pickI L k with
    | none => none
    | some out => if h : k < L.length then (if (edgeI L k L[k]).2 then none else if (edgeI L k L[k]).1 then some (out ++ [L[k]]) else some out) else some out
/-- The reference's edges. -/
def pickE (L : List H3) : Nat → List H3
  | 0 => []
  | k + 1 => if h : k < L.length then (if edgeE L k L[k] then pickE L k ++ [L[k]] else pickE L k) else pickE L k

def makeI (L : List H3) : List H3 := (pickI L L.length).getD []
def makeE (L : List H3) : List H3 := if (pickE L L.length).length < 3 then [] else pickE L L.length

section
variable {L : List H3}

theorem void_iff (G : Good L) : Void L ↔ ∃ k, ∃ h : k < L.length, (edgeI L k L[k]).2 = true := by
  constructor
  · rintro ⟨g, hg, h, hh, d, c, v⟩
    obtain ⟨k, hk, rfl⟩ := List.mem_iff_getElem.1 hh
    refine ⟨k, hk, ?_⟩
    rcases edgeI_spec G hk with ⟨e, _⟩ | ⟨_, hp, _⟩
    · exact e
    · have gm : g ∈ L.eraseIdx k := by
        rcases (mem_eraseIdx_iff hk g).1 hg with e | e
        · subst e; rw [sameDir_refl] at d; cases d
        · exact e
      have := hp g gm c
      rw [v] at this; cases this
  · rintro ⟨k, hk, e⟩
    rcases edgeI_spec G hk with ⟨_, g, hg, c, v⟩ | ⟨e', _⟩
    · exact ⟨g, ((mem_eraseIdx_iff hk g).2 (.inr hg)), L[k], List.getElem_mem hk, (G.others hk).dir g hg, c, v⟩
    · rw [e] at e'; cases e'

theorem pickE_mem (G : Good L) : ∀ k, k ≤ L.length → (∀ x, x ∈ pickE L k ↔ x ∈ L.take k ∧ Edge L x) ∧ (pickE L k).Sublist (L.take k) := by
  intro k
  induction k with
  | zero => intro _; simp [pickE]
  | succ k ih =>
    intro hk
    obtain ⟨h1, h2⟩ := ih (by omega)
    have hlt : k < L.length := by omega
    unfold pickE
    rw [dif_pos hlt, List.take_succ_eq_append_getElem hlt]
    have es := edgeE_spec G hlt
    split
    · rename_i he
      refine ⟨fun x => ?_, h2.append (List.Sublist.refl _)⟩
      rw [List.mem_append, h1, List.mem_append, List.mem_singleton]
      constructor
      · rintro (⟨a, b⟩ | rfl)
        · exact ⟨.inl a, b⟩
        · exact ⟨.inr rfl, es.1 he⟩
      · rintro ⟨a | rfl, b⟩
        · exact .inl ⟨a, b⟩
        · exact .inr rfl
    · rename_i he
      refine ⟨fun x => ?_, h2.trans (List.sublist_append_left _ _)⟩
      rw [h1, List.mem_append, List.mem_singleton]
      constructor
      · rintro ⟨a, b⟩; exact ⟨.inl a, b⟩
      · rintro ⟨a | rfl, b⟩
        · exact ⟨a, b⟩
        · exact absurd (es.2 b) he

theorem pickI_novoid (G : Good L) (nv : ¬ Void L) : ∀ k, k ≤ L.length → pickI L k = some (pickE L k) := by
  intro k
  induction k with
  | zero => intro _; rfl
  | succ k ih =>
    intro hk
    have hlt : k < L.length := by omega
    unfold pickI pickE
    rw [ih (by omega)]
    simp only [dif_pos hlt]
    rcases edgeI_spec G hlt with ⟨e, _⟩ | ⟨e, _, he⟩
    · exact absurd ((void_iff G).2 ⟨k, hlt, e⟩) nv
    · rw [e]
      have eq : (edgeI L k L[k]).1 = edgeE L k L[k] := by
        rw [Bool.eq_iff_iff, he, edgeE_spec G hlt]
      simp only [Bool.false_eq_true, if_false, eq]
      split <;> rfl

theorem pickI_void : ∀ k j, j < k → (h : j < L.length) → (edgeI L j L[j]).2 = true → pickI L k = none := by
  intro k
  induction k with
  | zero => intro j h; omega
  | succ k ih =>
    intro j hj hl he
    unfold pickI
    by_cases hjk : j < k
    · rw [ih j hjk hl he]
    · obtain rfl : j = k := by omega
      cases pickI L j with
      | none => rfl
      | some out => simp only [dif_pos hl, he, if_true]

theorem pick_sorted (G : Good L) : Sorted (pickE L L.length) := by
  have := (pickE_mem G L.length (Nat.le_refl _)).2
  rw [List.take_length] at this
  exact List.Pairwise.sublist this G.sorted
theorem pick_mem (G : Good L) (x : H3) : x ∈ pickE L L.length ↔ x ∈ L ∧ Edge L x := by
  have := (pickE_mem G L.length (Nat.le_refl _)).1 x
  rwa [List.take_length] at this

/-- Where there is no room, there are at most two edges. -/
theorem void_few (G : Good L) (v : Void L) : (pickE L L.length).length < 3 := by
  obtain ⟨g, hg, h, hh, d, c, lv⟩ := v
  have par : ∀ e, e ∈ L → Edge L e → cross h e = 0 := by
    rintro e he ⟨p, q, op, oq, hlt, ip, iq⟩
    exact two_on_par (G.nz h hh) op oq (void_on G hg hh d c lv ip) (void_on G hg hh d c lv iq) (by grind)
  apply Classical.byContradiction
  intro hn
  have hs := pick_sorted G
  have hm := pick_mem G
  generalize pickE L L.length = out at hn hs hm
  have l0 : 0 < out.length := by omega
  have l1 : 1 < out.length := by omega
  have l2 : 2 < out.length := by omega
  obtain ⟨m0, e0⟩ := (hm _).1 (List.getElem_mem l0)
  obtain ⟨m1, e1⟩ := (hm _).1 (List.getElem_mem l1)
  obtain ⟨m2, e2⟩ := (hm _).1 (List.getElem_mem l2)
  have b01 := sorted_get hs l0 l1 (by omega)
  have b02 := sorted_get hs l0 l2 (by omega)
  have b12 := sorted_get hs l1 l2 (by omega)
  rcases three_par G hh m0 m1 m2 (par _ m0 e0) (par _ m1 e1) (par _ m2 e2) with e | e | e
  · rw [e, before_irrefl] at b01; cases b01
  · rw [e, before_irrefl] at b02; cases b02
  · rw [e, before_irrefl] at b12; cases b12

/-- Where there is room and an edge, there are at least three. -/
theorem many_edges (G : Good L) (nv : ¬ Void L) {x : H3} (hx : x ∈ L) (ex : Edge L x) : 3 ≤ (pickE L L.length).length := by
  obtain ⟨y, v, n1⟩ := next_exists G nv hx ex
  obtain ⟨z, v', n2⟩ := next_exists G nv n1.mg n1.eg
  have mx := (pick_mem G x).2 ⟨hx, ex⟩
  have my := (pick_mem G y).2 ⟨n1.mg, n1.eg⟩
  have mz := (pick_mem G z).2 ⟨n2.mg, n2.eg⟩
  have xy : x ≠ y := by rintro rfl; have := n1.turn; rw [cross_self] at this; omega
  have yz : y ≠ z := by rintro rfl; have := n2.turn; rw [cross_self] at this; omega
  have xz : x ≠ z := by rintro rfl; have := n2.turn; have := n1.turn; rw [cross_anti] at this; omega
  generalize pickE L L.length = out at mx my mz
  match out, mx, my, mz with
  | [], mx, _, _ => cases mx
  | [a], mx, my, _ => simp at mx my; exact absurd (mx.trans my.symm) xy
  | [a, b], mx, my, mz =>
    simp at mx my mz
    rcases mx with e1 | e1 <;> rcases my with e2 | e2 <;> rcases mz with e3 | e3
    · exact absurd (e1.trans e2.symm) xy
    · exact absurd (e1.trans e2.symm) xy
    · exact absurd (e1.trans e3.symm) xz
    · exact absurd (e2.trans e3.symm) yz
    · exact absurd (e2.trans e3.symm) yz
    · exact absurd (e1.trans e3.symm) xz
    · exact absurd (e1.trans e2.symm) xy
    · exact absurd (e1.trans e2.symm) xy
  | a :: b :: c :: r, _, _, _ => simp

/-- THE TWO WAYS AGREE. -/
theorem make_eq (G : Good L) : makeI L = makeE L := by
  unfold makeI makeE
  by_cases v : Void L
  · obtain ⟨k, hk, e⟩ := (void_iff G).1 v
    rw [pickI_void L.length k hk hk e, if_pos (void_few G v)]
    rfl
  · rw [pickI_novoid G v L.length (Nat.le_refl _)]
    split
    · rename_i hl
      cases hp : pickE L L.length with
      | nil => rfl
      | cons x r =>
        have mx : x ∈ pickE L L.length := by rw [hp]; exact List.mem_cons_self
        obtain ⟨h1, h2⟩ := (pick_mem G x).1 mx
        have := many_edges G v h1 h2
        omega
    · rfl
end

/-! ### The region of half planes -/
def sorted4 (halves : List H3) : List H3 := sortH (halves ++ frameH)

theorem good_sorted {halves : List H3} (ok : ∀ h ∈ halves, HOk h) : Good (sorted4 halves) := by
  have oks : ∀ h ∈ halves ++ frameH, HOk h := fun h hh => by
    rcases List.mem_append.1 hh with hh | hh
    · exact ok h hh
    · exact frameH_ok h hh
  have nz : AllNZ (halves ++ frameH) := fun h hh => (oks h hh).nz
  refine ⟨sortH_sorted nz, fun g hg => oks g (sortH_mem nz hg), fun k hk => sortH_cover nz (List.mem_append_right _ hk)⟩
theorem sorted4_comm {halves : List H3} (ok : ∀ h ∈ halves, HOk h) : sortH (frameH ++ halves) = sorted4 halves := by
  have oks : ∀ h ∈ frameH ++ halves, HOk h := fun h hh => by
    rcases List.mem_append.1 hh with hh | hh
    · exact frameH_ok h hh
    · exact ok h hh
  exact sortH_ext (fun h hh => (oks h hh).nz) (fun h hh => (oks h hh).prim) (fun x => by simp [or_comm])

/-- The region of the points of the frame in all these half planes. -/
def makeR (halves : List H3) : List H3 := makeE (sorted4 halves)
end Go.Proofs.Ytnenlgaafiifpaa
