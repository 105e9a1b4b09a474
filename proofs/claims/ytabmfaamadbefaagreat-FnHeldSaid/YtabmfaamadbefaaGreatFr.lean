/- Several texts in one: Gk, Lb, Fr. Each says its own conditions. -/
import Derived.Test.YtabmfaamadbefaaGreatGeo
import Derived.Test.YtabmfaamadbefaaGreatWords
import Derived.Test.YtabmfaamadbefaaGreatRows
import Derived.ProofKit
import Derived.Lib.SmallJoins
import Derived.ChangeOld
import Derived.Test.YtabmfaamadbefaaGreatA
import Derived.Lib.Mul64
import Derived.Laws.Bits64b
/- Plain: a region is the meet of the half planes of its edges; a meet met again is itself; the order of half planes does not matter. No program. -/
set_option linter.unusedSimpArgs false
set_option linter.unusedVariables false
set_option linter.unusedSectionVars false
namespace Go.Proofs.YtabmfaamadbefaaGreat
theorem cross_id4 (h g x y : H3) : cross h x * cross g y - cross h y * cross g x = cross h g * cross x y := by unfold cross; grind
theorem cross_nrm (h e g : H3) : nrm h * cross e g = dotH h e * cross h g - dotH h g * cross h e := by unfold nrm dotH cross; grind
theorem edges_cone {L : List H3} (G : Good L) (nv : ¬ Void L) (ne : ∃ e ∈ L, Edge L e) {h : H3} (hh : h ∈ L) : ∃ e g v, e ∈ L ∧ Edge L e ∧ Next L e g v ∧ 0 < cross e h ∧ 0 ≤ cross h g := by
  classical
  have nh := G.nz h hh
  have mA : ∀ f, f ∈ L.filter (fun f => decide (Edge L f ∧ 0 < cross f h)) ↔ f ∈ L ∧ Edge L f ∧ 0 < cross f h := fun f => by simp
  have neA : L.filter (fun f => decide (Edge L f ∧ 0 < cross f h)) ≠ [] := by
    intro h0
    have all : ∀ f ∈ L, Edge L f → 0 ≤ cross h f := fun f hf ef => by
      apply Classical.byContradiction; intro hn
      have : f ∈ L.filter (fun f => decide (Edge L f ∧ 0 < cross f h)) := (mA f).2 ⟨hf, ef, by rw [cross_anti]; omega⟩
      rw [h0] at this; cases this
    have mB : ∀ f, f ∈ L.filter (fun f => decide (Edge L f ∧ 0 < cross h f)) ↔ f ∈ L ∧ Edge L f ∧ 0 < cross h f := fun f => by simp
    by_cases hB : L.filter (fun f => decide (Edge L f ∧ 0 < cross h f)) = []
    · have zero : ∀ f ∈ L, Edge L f → cross h f = 0 := fun f hf ef => by
        have := all f hf ef
        apply Classical.byContradiction; intro hn
        have : f ∈ L.filter (fun f => decide (Edge L f ∧ 0 < cross h f)) := (mB f).2 ⟨hf, ef, by omega⟩
        rw [hB] at this; cases this
      obtain ⟨e, he, ee⟩ := ne
      obtain ⟨g, v, N⟩ := next_exists G nv he ee
      have z1 := zero e he ee
      have z2 := zero g N.mg N.eg
      have id := cross_nrm h e g
      rw [z1, z2, Int.mul_zero, Int.mul_zero] at id
      have := Int.mul_pos (nrm_pos nh) N.turn
      omega
    · obtain ⟨g0, hg0, gm⟩ := last_angle (e := h) _ hB (fun f hf => ((mB f).1 hf).2.2)
      obtain ⟨m0, e0, p0⟩ := (mB g0).1 hg0
      obtain ⟨g1, v1, N1⟩ := next_exists G nv m0 e0
      have z1 : cross h g1 = 0 := by
        have a1 := all g1 N1.mg N1.eg
        apply Classical.byContradiction; intro hn
        have := gm g1 ((mB g1).2 ⟨N1.mg, N1.eg, by omega⟩)
        have := N1.turn
        omega
      obtain ⟨g2, v2, N2⟩ := next_exists G nv N1.mg N1.eg
      have a2 := all g2 N2.mg N2.eg
      have id := cross_id4 h g1 g2 g0
      rw [z1, Int.zero_mul] at id
      have q1 := Int.mul_pos p0 N2.turn
      have q2 : cross h g2 * cross g1 g0 ≤ 0 := Int.mul_nonpos_of_nonneg_of_nonpos a2 (by rw [cross_anti]; have := N1.turn; omega)
      omega
  obtain ⟨e, he, em⟩ := last_angle (e := negH h) _ neA (fun f hf => by
    have := ((mA f).1 hf).2.2
    have id : cross (negH h) f = cross f h := by unfold cross negH; grind
    rw [id]; exact this)
  obtain ⟨m0, e0, p0⟩ := (mA e).1 he
  obtain ⟨g, v, N⟩ := next_exists G nv m0 e0
  refine ⟨e, g, v, m0, e0, N, p0, ?_⟩
  apply Classical.byContradiction; intro hn
  have := em g ((mA g).2 ⟨N.mg, N.eg, by rw [cross_anti]; omega⟩)
  have := N.turn
  omega
theorem edges_inside {L : List H3} (G : Good L) (nv : ¬ Void L) (ne : ∃ e ∈ L, Edge L e) {x : Pt} (hx : ∀ e ∈ L, Edge L e → In e x) : Inside L x := by
  intro h hh
  obtain ⟨e, g, v, he, ee, N, p, q⟩ := edges_cone G nv ne hh
  have i1 := hx e he ee
  have i2 := hx g N.mg N.eg
  have iv := N.iv h hh
  have o1 := N.oe
  have o2 := N.og
  have cq : (0 : Rat) < (cross e g : Rat) := by exact_mod_cast N.turn
  have pq : (0 : Rat) ≤ (cross e h : Rat) := by exact_mod_cast Int.le_of_lt p
  have qq : (0 : Rat) ≤ (cross h g : Rat) := by exact_mod_cast q
  have id : ∀ y : Pt, (cross e g : Rat) * val h y = (cross h g : Rat) * val e y + (cross e h : Rat) * val g y := fun y => by
    rw [crossQ, crossQ, crossQ]; unfold val; grind
  have d1 := id x
  have d2 := id v
  unfold In On at *
  have m1 := Rat.mul_le_mul_of_nonneg_left i1 qq
  have m2 := Rat.mul_le_mul_of_nonneg_left i2 pq
  have m3 := Rat.mul_le_mul_of_nonneg_left iv (show (0 : Rat) ≤ (cross e g : Rat) by grind)
  rw [o1, o2] at d2
  apply Classical.byContradiction; intro hn
  have m4 := Rat.mul_pos cq (show (0 : Rat) < val h x - h.c by grind)
  grind
theorem edge_congr {L M : List H3} (e : ∀ x, Inside L x ↔ Inside M x) (h : H3) : Edge L h ↔ Edge M h := by
  unfold Edge
  constructor
  · rintro ⟨p, q, a, b, c, d, f⟩; exact ⟨p, q, a, b, c, (e p).1 d, (e q).1 f⟩
  · rintro ⟨p, q, a, b, c, d, f⟩; exact ⟨p, q, a, b, c, (e p).2 d, (e q).2 f⟩
theorem Good.in_frame {L : List H3} (G : Good L) {x : Pt} (h : Inside L x) : ∀ k ∈ frameH, In k x := fun k hk => by
  obtain ⟨y, hy, t⟩ := G.frame k hk
  exact Tle.in (G.ok y hy).nz (frameH_ok k hk).nz t (h y hy)
theorem makeR_idem {hs : List H3} (ok : ∀ g ∈ hs, HOk g) (hne : makeR hs ≠ []) : makeR (makeR hs) = makeR hs := by
  have G := good_sorted ok
  have eP := makeE_some (L := sorted4 hs) hne
  have eP' : makeR hs = pickE (sorted4 hs) (sorted4 hs).length := eP
  have mP : ∀ x, x ∈ makeR hs ↔ x ∈ sorted4 hs ∧ Edge (sorted4 hs) x := fun x => by rw [eP']; exact pick_mem G x
  have l3 : ¬ (makeR hs).length < 3 := fun h => by
    rw [eP'] at h
    exact hne (if_pos h)
  have nv : ¬ Void (sorted4 hs) := fun v => by
    have := void_few G v
    rw [← eP'] at this; exact l3 this
  have ne : ∃ e ∈ sorted4 hs, Edge (sorted4 hs) e := by
    obtain ⟨x, hx⟩ := List.exists_mem_of_ne_nil _ hne
    exact ⟨x, (mP x).1 hx⟩
  have okP : ∀ g ∈ makeR hs, HOk g := fun g hg => G.ok g ((mP g).1 hg).1
  have G' := good_sorted okP
  have eI : ∀ x, Inside (sorted4 (makeR hs)) x ↔ Inside (sorted4 hs) x := fun x => by
    rw [inside_sorted okP]
    constructor
    · intro h
      exact edges_inside G nv ne (fun e he ee => h e (List.mem_append_left _ ((mP e).2 ⟨he, ee⟩)))
    · intro h g hg
      rcases List.mem_append.1 hg with h1 | h1
      · exact h g ((mP g).1 h1).1
      · exact G.in_frame h g h1
  have mem : ∀ x, x ∈ pickE (sorted4 (makeR hs)) (sorted4 (makeR hs)).length ↔ x ∈ makeR hs := fun x => by
    rw [pick_mem G' x, edge_congr eI x]
    constructor
    · rintro ⟨h1, h2⟩
      rcases List.mem_append.1 (sortH_mem (fun y hy => by
        rcases List.mem_append.1 hy with h | h
        · exact (okP y h).nz
        · exact (frameH_ok y h).nz) h1) with h3 | h3
      · exact h3
      · obtain ⟨y, hy, t⟩ := G.frame x h3
        obtain ⟨p, q, op, oq, hlt, ip, iq⟩ := h2
        have := edge_tight hy (G.ok y hy) (frameH_ok x h3) t ip op
        exact (mP x).2 ⟨this ▸ hy, p, q, op, oq, hlt, ip, iq⟩
    · intro hx
      have h2 := ((mP x).1 hx).2
      refine ⟨?_, h2⟩
      obtain ⟨y, hy, t⟩ := sortH_cover (l := makeR hs ++ frameH) (fun y hy => by
        rcases List.mem_append.1 hy with h | h
        · exact (okP y h).nz
        · exact (frameH_ok y h).nz) (List.mem_append_left _ hx)
      obtain ⟨p, q, op, oq, hlt, ip, iq⟩ := h2
      have := edge_tight (L := sorted4 (makeR hs)) hy (G'.ok y hy) (okP x hx) t ((eI p).2 ip) op
      exact this ▸ hy
  have e2 : pickE (sorted4 (makeR hs)) (sorted4 (makeR hs)).length = makeR hs := by
    refine sorted_unique (pick_sorted G') ?_ mem
    rw [eP']; exact pick_sorted G
  show makeE (sorted4 (makeR hs)) = makeR hs
  unfold makeE
  rw [e2, if_neg l3]
theorem makeR_mem_ext {l m : List H3} (ok : ∀ g ∈ l, HOk g) (h : ∀ x, x ∈ l ↔ x ∈ m) : makeR l = makeR m := by
  have e : sorted4 l = sorted4 m := sortH_ext (fun y hy => by
      rcases List.mem_append.1 hy with h | h
      · exact (ok y h).nz
      · exact (frameH_ok y h).nz) (fun y hy => by
      rcases List.mem_append.1 hy with h | h
      · exact (ok y h).prim
      · exact (frameH_ok y h).prim) (fun x => by rw [List.mem_append, List.mem_append, h x])
  unfold makeR
  rw [e]
end Go.Proofs.YtabmfaamadbefaaGreat
/- What every law's proof uses: the frame, and ints opened. No condition. -/
set_option linter.unusedVariables false
namespace Go.Proofs.YtabmfaamadbefaaGreat
open Go.ChangeShapes Go.WideShapes Go.ChangeAt Go.RowKit Go.Joins
theorem own : ownKnob Tryz.prog.godebug = none := by kernel_rfl
theorem laidOut : laidOutB Tryz.prog = true := by kernel_rfl
theorem wf_bd {x : Int} (h : (Lit.int .i64 x).wf = true) : -9223372036854775808 ≤ x ∧ x ≤ 9223372036854775807 := by
  simp [Lit.wf, IntKind.min, IntKind.max, IntKind.signed, IntKind.bits] at h
  omega

section
variable {H : Type} {enc : TypeId × Value → H} {w : World} {base : Nat} {spare : Nat → Bool} {held : Bool} {n : Nat}
theorem int_of_trod {v : Value} {y : DataW H × List MemPlace}
    (h : DataW.trod enc Tryz.prog w base spare held n 3 [v] = some y) : ∃ x : Int, v = .int .i64 x ∧ -9223372036854775808 ≤ x ∧ x ≤ 9223372036854775807 := by
  obtain ⟨x, e, _, hx⟩ := DataW.trod_int Tryz.underlying3 h
  simp at e
  exact ⟨x, e, wf_bd hx⟩
theorem cells_int : Tryz.prog.cellsOf 3 = 1 := by kernel_rfl
end
end Go.Proofs.YtabmfaamadbefaaGreat
/- Contracts of math/bits.Mul64 and of the program's comparison of two fractions. Condition: the denominators are positive ints. -/
set_option linter.unusedSimpArgs false
set_option linter.unusedVariables false
set_option linter.unusedSectionVars false
namespace Go.Proofs.YtabmfaamadbefaaGreat
open Go.RowKit Go.Lib
namespace Mul64
theorem maskN (a : Nat) (ha : a < 18446744073709551616) : bits .and .u64 (a : Int) 4294967295 = ((a % 4294967296 : Nat) : Int) := by
  have h := bits_and_u64_nat a 4294967295 ha (by omega)
  have e : a &&& 4294967295 = a % 4294967296 := Nat.and_two_pow_sub_one_eq_mod a 32
  rw [e] at h
  exact h
theorem divN (a : Nat) : (a : Int) / 4294967296 = ((a / 4294967296 : Nat) : Int) := by omega
theorem mulN (a b : Nat) : (a : Int) * (b : Int) = ((a * b : Nat) : Int) := (Int.natCast_mul a b).symm
theorem addN (a b : Nat) : (a : Int) + (b : Int) = ((a + b : Nat) : Int) := (Int.natCast_add a b).symm
theorem wrapN (a : Nat) (ha : a < 18446744073709551616) : IntKind.u64.wrap (a : Int) = (a : Int) := by rw [IntKind.wrap_u64]; omega
theorem wrapM (a : Nat) : IntKind.u64.wrap (a : Int) = ((a % 18446744073709551616 : Nat) : Int) := by rw [IntKind.wrap_u64]; omega
end Mul64
def hi64 (x y : Nat) : Nat := x * y / 18446744073709551616
def lo64 (x y : Nat) : Nat := x * y % 18446744073709551616
theorem hl_lt {x y z t : Nat} : hi64 x y < hi64 z t ∨ (hi64 x y = hi64 z t ∧ lo64 x y < lo64 z t) ↔ x * y < z * t := by unfold hi64 lo64; omega

set_option maxHeartbeats 1000000 in
theorem mul64_any (x y : Nat) (hx : x < 18446744073709551616) (hy : y < 18446744073709551616) (w : World) :
    Calls Tryz.prog 109 #[.int .u64 x, .int .u64 y] w fun e w' => e = .returned (.tuple #[.int .u64 (hi64 x y), .int .u64 (lo64 x y)]) ∧ w = w' := by
  have HR := Lib.hid (show (Ending.returned (.tuple #[.int .u64 ((x * y / 18446744073709551616 : Nat) : Int), .int .u64 ((x * y % 18446744073709551616 : Nat) : Int)])) = .returned (.tuple #[.int .u64 (hi64 x y), .int .u64 (lo64 x y)]) from rfl)
  obtain ⟨bd, bt, bw, hhi⟩ := Lib.mul64_hi x y hx hy
  have ba := Lib.half_mul_le (a := x / 4294967296) (b := y / 4294967296) (by omega) (by omega)
  have bb := Lib.half_mul_le (a := x / 4294967296) (b := y % 4294967296) (by omega) (by omega)
  have bc := Lib.half_mul_le (a := x % 4294967296) (b := y / 4294967296) (by omega) (by omega)
  have ba' : x / 4294967296 * (y / 4294967296) < 18446744073709551616 := by omega
  have bb' : x / 4294967296 * (y % 4294967296) < 18446744073709551616 := by omega
  have bc' : x % 4294967296 * (y / 4294967296) < 18446744073709551616 := by omega
  have bh1 : x / 4294967296 * (y / 4294967296) + (x / 4294967296 * (y % 4294967296) + x % 4294967296 * (y % 4294967296) / 4294967296) / 4294967296 < 18446744073709551616 := by omega
  have bh : x / 4294967296 * (y / 4294967296) + (x / 4294967296 * (y % 4294967296) + x % 4294967296 * (y % 4294967296) / 4294967296) / 4294967296 + ((x / 4294967296 * (y % 4294967296) + x % 4294967296 * (y % 4294967296) / 4294967296) % 4294967296 + x % 4294967296 * (y / 4294967296)) / 4294967296 < 18446744073709551616 := by omega
  go_enter Tryz.func109, Tryz.ntmps109
  go_wp2
  simp only [Mul64.maskN x hx, Mul64.maskN y hy, Mul64.divN, Mul64.mulN, Mul64.addN, Mul64.wrapN _ bd, Mul64.wrapN _ bb', Mul64.wrapN _ bt, Mul64.maskN _ bt, Mul64.wrapN _ bc', Mul64.wrapN _ bw, Mul64.wrapN _ ba', Mul64.wrapN _ bh1, Mul64.wrapN _ bh, Mul64.wrapM (x * y)]
  rw [hhi]
  go_ret2
  exact ⟨HR.out, rfl⟩

theorem nat_mul_cast (a b : Int) : ((a.natAbs * b.natAbs : Nat) : Int) = (a.natAbs : Int) * (b.natAbs : Int) := Int.natCast_mul _ _

/-- How the products of magnitudes compare, and what the program answers. -/
theorem cmp_pos {a b c d : Int} (ha : 0 ≤ a) (hb : 0 < b) (hc : 0 ≤ c) (hd : 0 < d) :
    (a.natAbs * d.natAbs < c.natAbs * b.natAbs → cmpF a b c d = -1) ∧ (c.natAbs * b.natAbs < a.natAbs * d.natAbs → cmpF a b c d = 1) ∧ (a.natAbs * d.natAbs = c.natAbs * b.natAbs → cmpF a b c d = 0) := by
  have e1 : ((a.natAbs * d.natAbs : Nat) : Int) = a * d := by rw [nat_mul_cast, Int.natAbs_of_nonneg ha, Int.natAbs_of_nonneg (by omega)]
  have e2 : ((c.natAbs * b.natAbs : Nat) : Int) = c * b := by rw [nat_mul_cast, Int.natAbs_of_nonneg hc, Int.natAbs_of_nonneg (by omega)]
  unfold cmpF
  refine ⟨fun h => ?_, fun h => ?_, fun h => ?_⟩
  · rw [if_pos (by omega)]
  · rw [if_neg (by omega), if_pos (by omega)]
  · rw [if_neg (by omega), if_neg (by omega)]
theorem cmp_neg {a b c d : Int} (ha : a < 0) (hb : 0 < b) (hc : c < 0) (hd : 0 < d) :
    (a.natAbs * d.natAbs < c.natAbs * b.natAbs → cmpF a b c d = 1) ∧ (c.natAbs * b.natAbs < a.natAbs * d.natAbs → cmpF a b c d = -1) ∧ (a.natAbs * d.natAbs = c.natAbs * b.natAbs → cmpF a b c d = 0) := by
  have ea : (a.natAbs : Int) = -a := by omega
  have ec : (c.natAbs : Int) = -c := by omega
  have eb : (b.natAbs : Int) = b := by omega
  have ed : (d.natAbs : Int) = d := by omega
  have e1 : ((a.natAbs * d.natAbs : Nat) : Int) = -(a * d) := by rw [nat_mul_cast, ea, ed, Int.neg_mul]
  have e2 : ((c.natAbs * b.natAbs : Nat) : Int) = -(c * b) := by rw [nat_mul_cast, ec, eb, Int.neg_mul]
  unfold cmpF
  refine ⟨fun h => ?_, fun h => ?_, fun h => ?_⟩
  · rw [if_neg (by omega), if_pos (by omega)]
  · rw [if_pos (by omega)]
  · rw [if_neg (by omega), if_neg (by omega)]
theorem cmp_mixed {a b c d : Int} (hb : 0 < b) (hd : 0 < d) : (a < 0 → 0 ≤ c → cmpF a b c d = -1) ∧ (0 ≤ a → c < 0 → cmpF a b c d = 1) := by
  unfold cmpF
  refine ⟨fun h k => ?_, fun h k => ?_⟩
  · have := Int.mul_neg_of_neg_of_pos h hd
    have := Int.mul_nonneg k (show 0 ≤ b by omega)
    rw [if_pos (by omega)]
  · have := Int.mul_neg_of_neg_of_pos k hb
    have := Int.mul_nonneg h (show 0 ≤ d by omega)
    rw [if_neg (by omega), if_pos (by omega)]

set_option maxHeartbeats 1000000 in
theorem compareFractions_any (a b c d : Int) (w : World) (ha : -9223372036854775808 ≤ a ∧ a ≤ 9223372036854775807) (hb : 0 < b ∧ b ≤ 9223372036854775807) (hc : -9223372036854775808 ≤ c ∧ c ≤ 9223372036854775807) (hd : 0 < d ∧ d ≤ 9223372036854775807) :
    Calls Tryz.prog 73 #[.int .i64 a, .int .i64 b, .int .i64 c, .int .i64 d] w fun e w' => e = .returned (.int .i64 (cmpF a b c d)) ∧ w = w' := by
  have mx := cmp_mixed (a := a) (c := c) hb.1 hd.1
  by_cases sa : a < 0 <;> by_cases sc : c < 0
  · have cn := cmp_neg sa hb.1 sc hd.1
    have hl1 := @hl_lt a.natAbs d.natAbs c.natAbs b.natAbs
    have hl2 := @hl_lt c.natAbs b.natAbs a.natAbs d.natAbs
    have cases5 : (hi64 c.natAbs b.natAbs < hi64 a.natAbs d.natAbs) ∨ (¬ hi64 c.natAbs b.natAbs < hi64 a.natAbs d.natAbs ∧ hi64 a.natAbs d.natAbs < hi64 c.natAbs b.natAbs) ∨ (hi64 a.natAbs d.natAbs = hi64 c.natAbs b.natAbs ∧ lo64 c.natAbs b.natAbs < lo64 a.natAbs d.natAbs) ∨ (hi64 a.natAbs d.natAbs = hi64 c.natAbs b.natAbs ∧ ¬ lo64 c.natAbs b.natAbs < lo64 a.natAbs d.natAbs ∧ lo64 a.natAbs d.natAbs < lo64 c.natAbs b.natAbs) ∨ (hi64 a.natAbs d.natAbs = hi64 c.natAbs b.natAbs ∧ ¬ lo64 c.natAbs b.natAbs < lo64 a.natAbs d.natAbs ∧ ¬ lo64 a.natAbs d.natAbs < lo64 c.natAbs b.natAbs) := by omega
    rcases cases5 with k1 | ⟨k1, k2⟩ | ⟨ke, k1⟩ | ⟨ke, k1, k2⟩ | ⟨ke, k1, k2⟩
    · have HS := Lib.hid (cn.2.1 (hl2.1 (.inl k1)))
      clear cn mx hl1 hl2
      have n1 : ¬ hi64 a.natAbs d.natAbs < hi64 c.natAbs b.natAbs := by omega
      have n2 : ((hi64 a.natAbs d.natAbs : Int) == (hi64 c.natAbs b.natAbs : Int)) = false := by simp; omega
      go_enter Tryz.func73, Tryz.ntmps73
      go_wp2_with (first | (go_at_call 75; refine (magnitude_any _ _ (by omega) (by omega)).mono ?_; rintro e w' ⟨rfl, rfl⟩) | (go_at_call 109; refine (mul64_any _ _ (by omega) (by omega) _).mono ?_; rintro e w' ⟨rfl, rfl⟩))
      go_ret
      exact ⟨ret_int HS.out.symm, rfl⟩
    · have HS := Lib.hid (cn.1 (hl1.1 (.inl k2)))
      clear cn mx hl1 hl2
      have n2 : ((hi64 a.natAbs d.natAbs : Int) == (hi64 c.natAbs b.natAbs : Int)) = false := by simp; omega
      go_enter Tryz.func73, Tryz.ntmps73
      go_wp2_with (first | (go_at_call 75; refine (magnitude_any _ _ (by omega) (by omega)).mono ?_; rintro e w' ⟨rfl, rfl⟩) | (go_at_call 109; refine (mul64_any _ _ (by omega) (by omega) _).mono ?_; rintro e w' ⟨rfl, rfl⟩))
      go_ret
      exact ⟨ret_int HS.out.symm, rfl⟩
    · have HS := Lib.hid (cn.2.1 (hl2.1 (.inr ⟨ke.symm, k1⟩)))
      clear cn mx hl1 hl2
      have n1 : ¬ hi64 a.natAbs d.natAbs < hi64 c.natAbs b.natAbs := by omega
      have n3 : ¬ hi64 c.natAbs b.natAbs < hi64 a.natAbs d.natAbs := by omega
      have n2 : ((hi64 a.natAbs d.natAbs : Int) == (hi64 c.natAbs b.natAbs : Int)) = true := by simp; omega
      have n4 : ¬ lo64 a.natAbs d.natAbs < lo64 c.natAbs b.natAbs := by omega
      clear ke
      go_enter Tryz.func73, Tryz.ntmps73
      go_wp2_with (first | (go_at_call 75; refine (magnitude_any _ _ (by omega) (by omega)).mono ?_; rintro e w' ⟨rfl, rfl⟩) | (go_at_call 109; refine (mul64_any _ _ (by omega) (by omega) _).mono ?_; rintro e w' ⟨rfl, rfl⟩))
      go_ret
      exact ⟨ret_int HS.out.symm, rfl⟩
    · have HS := Lib.hid (cn.1 (hl1.1 (.inr ⟨ke, k2⟩)))
      clear cn mx hl1 hl2
      have n1 : ¬ hi64 a.natAbs d.natAbs < hi64 c.natAbs b.natAbs := by omega
      have n3 : ¬ hi64 c.natAbs b.natAbs < hi64 a.natAbs d.natAbs := by omega
      have n2 : ((hi64 a.natAbs d.natAbs : Int) == (hi64 c.natAbs b.natAbs : Int)) = true := by simp; omega
      clear ke
      go_enter Tryz.func73, Tryz.ntmps73
      go_wp2_with (first | (go_at_call 75; refine (magnitude_any _ _ (by omega) (by omega)).mono ?_; rintro e w' ⟨rfl, rfl⟩) | (go_at_call 109; refine (mul64_any _ _ (by omega) (by omega) _).mono ?_; rintro e w' ⟨rfl, rfl⟩))
      go_ret
      exact ⟨ret_int HS.out.symm, rfl⟩
    · have HS := Lib.hid (cn.2.2 (by have := hl1; have := hl2; omega))
      clear cn mx hl1 hl2
      have n1 : ¬ hi64 a.natAbs d.natAbs < hi64 c.natAbs b.natAbs := by omega
      have n3 : ¬ hi64 c.natAbs b.natAbs < hi64 a.natAbs d.natAbs := by omega
      have n2 : ((hi64 a.natAbs d.natAbs : Int) == (hi64 c.natAbs b.natAbs : Int)) = true := by simp; omega
      clear ke
      go_enter Tryz.func73, Tryz.ntmps73
      go_wp2_with (first | (go_at_call 75; refine (magnitude_any _ _ (by omega) (by omega)).mono ?_; rintro e w' ⟨rfl, rfl⟩) | (go_at_call 109; refine (mul64_any _ _ (by omega) (by omega) _).mono ?_; rintro e w' ⟨rfl, rfl⟩))
      go_ret
      exact ⟨ret_int HS.out.symm, rfl⟩
  · have HS := Lib.hid (mx.1 sa (by omega))
    clear mx
    go_enter Tryz.func73, Tryz.ntmps73
    go_wp2
    go_ret
    exact ⟨ret_int HS.out.symm, rfl⟩
  · have HS := Lib.hid (mx.2 (by omega) sc)
    clear mx
    go_enter Tryz.func73, Tryz.ntmps73
    go_wp2
    go_ret
    exact ⟨ret_int HS.out.symm, rfl⟩
  · have cn := cmp_pos (a := a) (c := c) (by omega) hb.1 (by omega) hd.1
    have hl1 := @hl_lt a.natAbs d.natAbs c.natAbs b.natAbs
    have hl2 := @hl_lt c.natAbs b.natAbs a.natAbs d.natAbs
    have cases5 : (hi64 c.natAbs b.natAbs < hi64 a.natAbs d.natAbs) ∨ (¬ hi64 c.natAbs b.natAbs < hi64 a.natAbs d.natAbs ∧ hi64 a.natAbs d.natAbs < hi64 c.natAbs b.natAbs) ∨ (hi64 a.natAbs d.natAbs = hi64 c.natAbs b.natAbs ∧ lo64 c.natAbs b.natAbs < lo64 a.natAbs d.natAbs) ∨ (hi64 a.natAbs d.natAbs = hi64 c.natAbs b.natAbs ∧ ¬ lo64 c.natAbs b.natAbs < lo64 a.natAbs d.natAbs ∧ lo64 a.natAbs d.natAbs < lo64 c.natAbs b.natAbs) ∨ (hi64 a.natAbs d.natAbs = hi64 c.natAbs b.natAbs ∧ ¬ lo64 c.natAbs b.natAbs < lo64 a.natAbs d.natAbs ∧ ¬ lo64 a.natAbs d.natAbs < lo64 c.natAbs b.natAbs) := by omega
    rcases cases5 with k1 | ⟨k1, k2⟩ | ⟨ke, k1⟩ | ⟨ke, k1, k2⟩ | ⟨ke, k1, k2⟩
    · have HS := Lib.hid (cn.2.1 (hl2.1 (.inl k1)))
      clear cn mx hl1 hl2
      have n1 : ¬ hi64 a.natAbs d.natAbs < hi64 c.natAbs b.natAbs := by omega
      have n2 : ((hi64 a.natAbs d.natAbs : Int) == (hi64 c.natAbs b.natAbs : Int)) = false := by simp; omega
      go_enter Tryz.func73, Tryz.ntmps73
      go_wp2_with (first | (go_at_call 75; refine (magnitude_any _ _ (by omega) (by omega)).mono ?_; rintro e w' ⟨rfl, rfl⟩) | (go_at_call 109; refine (mul64_any _ _ (by omega) (by omega) _).mono ?_; rintro e w' ⟨rfl, rfl⟩))
      go_ret
      exact ⟨ret_int HS.out.symm, rfl⟩
    · have HS := Lib.hid (cn.1 (hl1.1 (.inl k2)))
      clear cn mx hl1 hl2
      have n2 : ((hi64 a.natAbs d.natAbs : Int) == (hi64 c.natAbs b.natAbs : Int)) = false := by simp; omega
      go_enter Tryz.func73, Tryz.ntmps73
      go_wp2_with (first | (go_at_call 75; refine (magnitude_any _ _ (by omega) (by omega)).mono ?_; rintro e w' ⟨rfl, rfl⟩) | (go_at_call 109; refine (mul64_any _ _ (by omega) (by omega) _).mono ?_; rintro e w' ⟨rfl, rfl⟩))
      go_ret
      exact ⟨ret_int HS.out.symm, rfl⟩
    · have HS := Lib.hid (cn.2.1 (hl2.1 (.inr ⟨ke.symm, k1⟩)))
      clear cn mx hl1 hl2
      have n1 : ¬ hi64 a.natAbs d.natAbs < hi64 c.natAbs b.natAbs := by omega
      have n3 : ¬ hi64 c.natAbs b.natAbs < hi64 a.natAbs d.natAbs := by omega
      have n2 : ((hi64 a.natAbs d.natAbs : Int) == (hi64 c.natAbs b.natAbs : Int)) = true := by simp; omega
      have n4 : ¬ lo64 a.natAbs d.natAbs < lo64 c.natAbs b.natAbs := by omega
      clear ke
      go_enter Tryz.func73, Tryz.ntmps73
      go_wp2_with (first | (go_at_call 75; refine (magnitude_any _ _ (by omega) (by omega)).mono ?_; rintro e w' ⟨rfl, rfl⟩) | (go_at_call 109; refine (mul64_any _ _ (by omega) (by omega) _).mono ?_; rintro e w' ⟨rfl, rfl⟩))
      go_ret
      exact ⟨ret_int HS.out.symm, rfl⟩
    · have HS := Lib.hid (cn.1 (hl1.1 (.inr ⟨ke, k2⟩)))
      clear cn mx hl1 hl2
      have n1 : ¬ hi64 a.natAbs d.natAbs < hi64 c.natAbs b.natAbs := by omega
      have n3 : ¬ hi64 c.natAbs b.natAbs < hi64 a.natAbs d.natAbs := by omega
      have n2 : ((hi64 a.natAbs d.natAbs : Int) == (hi64 c.natAbs b.natAbs : Int)) = true := by simp; omega
      clear ke
      go_enter Tryz.func73, Tryz.ntmps73
      go_wp2_with (first | (go_at_call 75; refine (magnitude_any _ _ (by omega) (by omega)).mono ?_; rintro e w' ⟨rfl, rfl⟩) | (go_at_call 109; refine (mul64_any _ _ (by omega) (by omega) _).mono ?_; rintro e w' ⟨rfl, rfl⟩))
      go_ret
      exact ⟨ret_int HS.out.symm, rfl⟩
    · have HS := Lib.hid (cn.2.2 (by have := hl1; have := hl2; omega))
      clear cn mx hl1 hl2
      have n1 : ¬ hi64 a.natAbs d.natAbs < hi64 c.natAbs b.natAbs := by omega
      have n3 : ¬ hi64 c.natAbs b.natAbs < hi64 a.natAbs d.natAbs := by omega
      have n2 : ((hi64 a.natAbs d.natAbs : Int) == (hi64 c.natAbs b.natAbs : Int)) = true := by simp; omega
      clear ke
      go_enter Tryz.func73, Tryz.ntmps73
      go_wp2_with (first | (go_at_call 75; refine (magnitude_any _ _ (by omega) (by omega)).mono ?_; rintro e w' ⟨rfl, rfl⟩) | (go_at_call 109; refine (mul64_any _ _ (by omega) (by omega) _).mono ?_; rintro e w' ⟨rfl, rfl⟩))
      go_ret
      exact ⟨ret_int HS.out.symm, rfl⟩
end Go.Proofs.YtabmfaamadbefaaGreat