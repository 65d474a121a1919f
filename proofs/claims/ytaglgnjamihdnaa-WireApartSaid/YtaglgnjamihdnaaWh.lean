/- Two messages that are one; unlike messages have unlike bodies. -/
import Derived.Stop.BytesEq
import Derived.Test.YtaglgnjamihdnaaWf
namespace Go.Proofs.Ytaglgnjamihdnaa.R
open Go Go.RowKit Go.Proofs
set_option linter.unusedVariables false
set_option linter.unusedSimpArgs false
set_option maxRecDepth 20000

/-! ### the plain law -/
theorem enc_inj {u u' : Nat} {r r' : List UInt8} (hu : u ≤ 4611686018427387904) (hu' : u' ≤ 4611686018427387904) (h : enc u ++ r = enc u' ++ r') : u = u' ∧ r = r' := by
  have h1 := rnum_enc u r hu
  rw [h, rnum_enc u' r' hu'] at h1
  simp only [Prod.mk.injEq, Option.some.injEq] at h1
  exact ⟨h1.1.symm, h1.2.symm⟩
theorem clampN_inj {x y : Int} (hx : 0 ≤ x ∧ x ≤ 4611686018427387904) (hy : 0 ≤ y ∧ y ≤ 4611686018427387904) (h : clampN x = clampN y) : x = y := by
  unfold clampN at h
  omega
def fits (x : Int) : Prop := 0 ≤ x ∧ x ≤ 4611686018427387904
theorem encs_inj : ∀ (a b : List Int) (r r' : List UInt8), a.length = b.length → (∀ x ∈ a, fits x) → (∀ x ∈ b, fits x) → encs a ++ r = encs b ++ r' → a = b ∧ r = r'
  | [], [], r, r', _, _, _, h => ⟨rfl, by simpa [encs] using h⟩
  | x :: a, y :: b, r, r', hl, ha, hb, h => by
    rw [encs_cons, encs_cons, List.append_assoc, List.append_assoc] at h
    obtain ⟨h1, h2⟩ := enc_inj (clampN_le x) (clampN_le y) h
    obtain ⟨h3, h4⟩ := encs_inj a b r r' (by simpa using hl) (fun z hz => ha z (by simp [hz])) (fun z hz => hb z (by simp [hz])) h2
    exact ⟨by rw [clampN_inj (ha x (by simp)) (hb y (by simp)) h1, h3], h4⟩
  | [], _ :: _, _, _, hl, _, _, _ => by simp at hl
  | _ :: _, [], _, _, hl, _, _, _ => by simp at hl
theorem isin_fits {x a b : Int} (h : isin x a b = true) (ha : 0 ≤ a) (hb : b ≤ 4611686018427387904) : fits x := by
  unfold isin at h
  have := of_decide_eq_true h
  exact ⟨by omega, by omega⟩
theorem voteok_fits {x : Vt} (h : voteok x = true) : fits x.k ∧ fits x.s ∧ fits x.v ∧ fits x.f := by
  unfold voteok at h
  simp only [Bool.and_eq_true] at h
  exact ⟨isin_fits h.1.1.1 (by decide) (by decide), isin_fits h.1.1.2 (by decide) (by decide), isin_fits h.1.2 (by decide) (by decide), isin_fits h.2 (by decide) (by decide)⟩
instance : DecidableEq Vt := fun a b => decidable_of_iff (a.k = b.k ∧ a.s = b.s ∧ a.v = b.v ∧ a.sum = b.sum ∧ a.f = b.f ∧ a.tag = b.tag) (by cases a; cases b; simp)
theorem sum_inj {a b : List UInt8} {r r' : List UInt8} (hl : a.length = b.length) (h : a ++ r = b ++ r') : a = b ∧ r = r' := List.append_inj h hl
theorem layb_inj {x y : Vt} {r r' : List UInt8} (hx : x.ok) (hy : y.ok) (ox : voteok x = true) (oy : voteok y = true) (h : x.layb ++ r = y.layb ++ r') : x = y ∧ r = r' := by
  obtain ⟨a1, a2, a3, a4⟩ := voteok_fits ox
  obtain ⟨b1, b2, b3, b4⟩ := voteok_fits oy
  simp only [Vt.layb, List.append_assoc] at h
  obtain ⟨h1, h2⟩ := encs_inj [x.k, x.s, x.v] [y.k, y.s, y.v] _ _ rfl (by simp [a1, a2, a3]) (by simp [b1, b2, b3]) h
  obtain ⟨h3, h4⟩ := sum_inj (hx.1.trans hy.1.symm) h2
  obtain ⟨h5, h6⟩ := encs_inj [x.f] [y.f] _ _ rfl (by simp [a4]) (by simp [b4]) h4
  obtain ⟨h7, h8⟩ := sum_inj (hx.2.trans hy.2.symm) h6
  refine ⟨?_, h8⟩
  cases x
  cases y
  simp_all
theorem layl_inj : ∀ (l m : List Vt), l.length = m.length → (∀ x ∈ l, x.ok) → (∀ x ∈ m, x.ok) → l.all voteok = true → m.all voteok = true → l.flatMap Vt.layb = m.flatMap Vt.layb → l = m
  | [], [], _, _, _, _, _, _ => rfl
  | x :: l, y :: m, hl, hx, hy, ox, oy, h => by
    rw [List.flatMap_cons, List.flatMap_cons] at h
    simp only [List.all_cons, Bool.and_eq_true] at ox oy
    obtain ⟨h1, h2⟩ := layb_inj (hx x (by simp)) (hy y (by simp)) ox.1 oy.1 h
    rw [h1, layl_inj l m (by simpa using hl) (fun z hz => hx z (by simp [hz])) (fun z hz => hy z (by simp [hz])) ox.2 oy.2 h2]
  | [], _ :: _, hl, _, _, _, _, _ => by simp at hl
  | _ :: _, [], hl, _, _, _, _, _ => by simp at hl
theorem sealb_iff {x y : Vt} (hx : x.ok) (hy : y.ok) (ox : voteok x = true) (oy : voteok y = true) : x.sealb = y.sealb ↔ x = y.turned x.tag := by
  obtain ⟨a1, a2, a3, a4⟩ := voteok_fits ox
  obtain ⟨b1, b2, b3, b4⟩ := voteok_fits oy
  have f5 : fits 5 := ⟨by decide, by decide⟩
  constructor
  · intro h
    simp only [Vt.sealb] at h
    obtain ⟨h1, h2⟩ := encs_inj [5, x.k, x.s, x.v] [5, y.k, y.s, y.v] _ _ rfl (by simp [a1, a2, a3, f5]) (by simp [b1, b2, b3, f5]) h
    obtain ⟨h3, h4⟩ := sum_inj (hx.1.trans hy.1.symm) h2
    obtain ⟨h5, _⟩ := encs_inj [x.f] [y.f] [] [] rfl (by simp [a4]) (by simp [b4]) (by simpa using h4)
    cases x
    cases y
    simp_all [Vt.turned]
  · intro h
    rw [h]
    rfl
structure msgfits (m : Mg) : Prop where
  k : fits m.k
  f : fits m.f
  s : fits m.s
  v : fits m.v
  x : m.x.length ≤ 200
  l : m.l.length ≤ 10
  votes : m.l.all voteok = true
theorem msgok_fits {m : Mg} (h : msgok m = true) : msgfits m := by
  unfold msgok at h
  simp only [Bool.and_eq_true, decide_eq_true_eq] at h
  obtain ⟨⟨⟨⟨⟨⟨⟨h1, h2⟩, h3⟩, h4⟩, h5⟩, h6⟩, h7⟩, h8⟩ := h
  exact ⟨isin_fits h1 (by decide) (by decide), isin_fits h2 (by decide) (by decide), isin_fits h4 (by decide) (by decide), isin_fits h5 (by decide) (by decide), h6, h7, h8⟩
/-- Are two messages one in what is sealed? -/
def samesealed (m n : Mg) : Bool := (m.k == n.k) && (m.f == n.f) && (m.s == n.s) && (m.v == n.v) && decide (m.x = n.x) && decide (m.l = n.l)
theorem body_iff {m n : Mg} {w w' : World} (hm : m.ok w) (hn : n.ok w') (om : msgok m = true) (on : msgok n = true) : m.body = n.body ↔ (m.k = n.k ∧ m.f = n.f ∧ m.s = n.s ∧ m.v = n.v ∧ m.x = n.x ∧ m.l = n.l) := by
  have a := msgok_fits om
  have b := msgok_fits on
  have f4 : fits 4 := ⟨by decide, by decide⟩
  constructor
  · intro h
    simp only [Mg.body] at h
    obtain ⟨h1, h2⟩ := encs_inj [4, m.k, m.f, m.s, m.v] [4, n.k, n.f, n.s, n.v] _ _ rfl (by simp [a.k, a.f, a.s, a.v, f4]) (by simp [b.k, b.f, b.s, b.v, f4]) h
    unfold encRow at h2
    rw [List.append_assoc, List.append_assoc] at h2
    have ax := a.x
    have bx := b.x
    obtain ⟨h3, h4⟩ := enc_inj (by omega) (by omega) h2
    obtain ⟨h5, h6⟩ := sum_inj h3 h4
    unfold votesb at h6
    have al := a.l
    have bl := b.l
    obtain ⟨h7, h8⟩ := encs_inj [(m.l.length : Int)] [(n.l.length : Int)] _ _ rfl (by simp [fits]; omega) (by simp [fits]; omega) h6
    have h9 := layl_inj m.l n.l (by simp only [List.cons.injEq, and_true] at h7; omega) hm.votes hn.votes a.votes b.votes h8
    simp only [List.cons.injEq] at h1
    exact ⟨h1.2.1, h1.2.2.1, h1.2.2.2.1, h1.2.2.2.2.1, h5, h9⟩
  · rintro ⟨h1, h2, h3, h4, h5, h6⟩
    simp only [Mg.body, h1, h2, h3, h4, h5, h6]
/-! ### compared -/
theorem eq_hash (g g' : List UInt8) (hg : g.length = 32) (hg' : g'.length = 32) (d : Nat) (w : World) : (Op.equalIn (d + 2) 25 (.agg (bvs g).toArray) (.agg (bvs g').toArray)).run Try.prog w = .ok (g == g') w :=
  run_equalIn_bytes w d 25 5 32 Try.underlying25 Try.underlying5 (fun w => by
    obtain ⟨i, h1, _, h2, _⟩ := Inf.parts (inferInstance : Inf Try.prog 5 (.int .u8 0) 1 1)
    simp [sizeOf, typeInfo, h1, h2]) g g' hg hg'
theorem part_hash {xs : Array Value} {off : Nat} {g : List UInt8} (h : xs.extract off (off + 32) = (bvs g).toArray) (w : World) : (part 25 xs off).run Try.prog w = .ok (.agg (bvs g).toArray) w := by
  obtain ⟨i, h1, _, h2, _⟩ := Inf.parts (inferInstance : Inf Try.prog 25 _ 32 32)
  simp [part, run_isAgg Try.underlying25, isAggD, sizeOf, typeInfo, h1, h2, h]
theorem ext_sum (x : Vt) (hx : x.ok) : x.cs.toArray.extract 3 (3 + 32) = (bvs x.sum).toArray := by
  apply Array.toList_inj.1
  rw [Array.toList_extract]
  have : (bvs x.sum).length = 32 := by simp [hx.1]
  simp [Vt.cs, List.extract, this]
theorem ext_tag (x : Vt) (hx : x.ok) : x.cs.toArray.extract 36 (36 + 32) = (bvs x.tag).toArray := by
  apply Array.toList_inj.1
  rw [Array.toList_extract]
  have h1 : (bvs x.sum).length = 32 := by simp [hx.1]
  have h2 : (bvs x.tag).length = 32 := by simp [hx.2]
  have e : x.cs = (iv x.k :: iv x.s :: iv x.v :: (bvs x.sum ++ [iv x.f])) ++ bvs x.tag := by simp [Vt.cs]
  have e0 : (iv x.k :: iv x.s :: iv x.v :: (bvs x.sum ++ [iv x.f])).length = 36 := by simp [hx.1]
  show List.take (36 + 32 - 36) (List.drop 36 x.cs) = _
  rw [e, ← e0, List.drop_left, List.take_of_length_le (by omega)]

end Go.Proofs.Ytaglgnjamihdnaa.R
