/- Plain definitions and laws on numbers and lists, no program. -/
namespace Go.Proofs.Ytbgdfdibpmfafaa

def inR (n a b : Int) : Bool := decide (a ≤ n) && decide (n ≤ b)

/-- The greatest common divisor of the magnitudes. -/
def gcdL (l : List Int) : Nat := l.foldl (fun g n => Nat.gcd g n.natAbs) 0

/-- The reference's GcdOf. -/
def gcdS (a b : Int) : Int := if a < -9223372036854775807 ∨ b < -9223372036854775807 then 0 else (Int.gcd a b : Int)

theorem gcd_step (a b : Nat) : Nat.gcd b (a % b) = Nat.gcd a b := by
  rw [Nat.gcd_comm, ← Nat.gcd_rec, Nat.gcd_comm]

theorem gcdL_take_succ (l : List Int) (k : Nat) (h : k < l.length) : gcdL (l.take (k+1)) = Nat.gcd (gcdL (l.take k)) l[k].natAbs := by
  unfold gcdL
  rw [List.take_succ_eq_append_getElem h, List.foldl_append]
  rfl


theorem gcdL_le_aux (B : Nat) : ∀ (l : List Int) (g : Nat), g ≤ B → (∀ x ∈ l, x.natAbs ≤ B) → l.foldl (fun g n => Nat.gcd g n.natAbs) g ≤ B := by
  intro l
  induction l with
  | nil => intro g hg _; exact hg
  | cons x r ih =>
    intro g hg h
    refine ih _ ?_ (fun y hy => h y (List.mem_cons_of_mem _ hy))
    rcases Nat.eq_zero_or_pos g with h0 | h0
    · subst h0; show Nat.gcd 0 x.natAbs ≤ B; rw [Nat.gcd_zero_left]; exact h x List.mem_cons_self
    · exact Nat.le_trans (Nat.gcd_le_left _ h0) hg
theorem gcdL_le (B : Nat) (l : List Int) (h : ∀ x ∈ l, x.natAbs ≤ B) : gcdL l ≤ B := gcdL_le_aux B l 0 (Nat.zero_le _) h

theorem gcdS_bd (a b : Int) (ha : a ≤ 9223372036854775807) (hb : b ≤ 9223372036854775807) : 0 ≤ gcdS a b ∧ gcdS a b ≤ 9223372036854775807 := by
  unfold gcdS
  by_cases h : a < -9223372036854775807 ∨ b < -9223372036854775807
  · rw [if_pos h]; omega
  · rw [if_neg h]
    refine ⟨by omega, ?_⟩
    have : Int.gcd a b ≤ 9223372036854775807 := by
      unfold Int.gcd
      rcases Nat.eq_zero_or_pos a.natAbs with h0 | h0
      · rw [h0, Nat.gcd_zero_left]; omega
      · exact Nat.le_trans (Nat.gcd_le_left _ h0) (by omega)
    omega
theorem gcdS_eq (a b : Int) (ha : -9223372036854775807 ≤ a) (hb : -9223372036854775807 ≤ b) : gcdS a b = (Nat.gcd a.natAbs b.natAbs : Int) := by
  unfold gcdS; rw [if_neg (by omega)]; rfl
theorem inR_iff {n a b : Int} : inR n a b = true ↔ a ≤ n ∧ n ≤ b := by simp [inR]
theorem gcdS3 (a b c : Int) (ha : -9223372036854775807 ≤ a) (hb : -9223372036854775807 ≤ b) (hc : -9223372036854775807 ≤ c) : gcdS (gcdS a b) c = (gcdL [a, b, c] : Int) := by
  rw [gcdS_eq a b ha hb, gcdS_eq _ _ (by omega) hc]
  simp [gcdL]
theorem gcdS4 (a b c d : Int) (ha : -9223372036854775807 ≤ a) (hb : -9223372036854775807 ≤ b) (hc : -9223372036854775807 ≤ c) (hd : -9223372036854775807 ≤ d) : gcdS (gcdS a b) (gcdS c d) = (gcdL [a, b, c, d] : Int) := by
  rw [gcdS_eq a b ha hb, gcdS_eq c d hc hd, gcdS_eq _ _ (by omega) (by omega)]
  simp [gcdL, Nat.gcd_assoc]

theorem chain2 (a b : Bool) : a = false ∨ (a = true ∧ b = false) ∨ (a = true ∧ b = true) := by cases a <;> cases b <;> simp
theorem chain3 (a b c : Bool) : a = false ∨ (a = true ∧ b = false) ∨ (a = true ∧ b = true ∧ c = false) ∨ (a = true ∧ b = true ∧ c = true) := by cases a <;> cases b <;> cases c <;> simp
theorem chain4 (a b c d : Bool) : a = false ∨ (a = true ∧ b = false) ∨ (a = true ∧ b = true ∧ c = false) ∨ (a = true ∧ b = true ∧ c = true ∧ d = false) ∨ (a = true ∧ b = true ∧ c = true ∧ d = true) := by
  cases a <;> cases b <;> cases c <;> cases d <;> simp
theorem chain5 (a b c d e : Bool) : a = false ∨ (a = true ∧ b = false) ∨ (a = true ∧ b = true ∧ c = false) ∨ (a = true ∧ b = true ∧ c = true ∧ d = false) ∨ (a = true ∧ b = true ∧ c = true ∧ d = true ∧ e = false) ∨ (a = true ∧ b = true ∧ c = true ∧ d = true ∧ e = true) := by
  cases a <;> cases b <;> cases c <;> cases d <;> cases e <;> simp

/-- The program's PieceOk. -/
def pieceOk (a b c d : Int) : Bool := inR d 1 1000000000000 && inR a (-1000000000000) 1000000000000 && inR b (-1000000000000) 1000000000000 && inR c (-1000000000000) 1000000000000 && decide (gcdL [a, b, c, d] = 1)

end Go.Proofs.Ytbgdfdibpmfafaa
