/- What is read is what was laid: operations and marks, in plain words of bytes. -/
import Derived.Test.YtaglgnjamihdnaaDoorWr
namespace Go.Proofs.YtaglgnjamihdnaaDoor.R
open Go Go.RowKit Go.Proofs
set_option linter.unusedVariables false
set_option linter.unusedSimpArgs false
set_option maxRecDepth 20000

theorem rbytes_back {s : RSt} {l : List UInt8} (h : (rbytes s).2 = some l) : s = some (encRow (rbytes s).1 ++ l) ∧ (rbytes s).1.length ≤ 4611686018427387904 := by
  unfold rbytes at h ⊢
  cases hm : (rnum s).2 with
  | none => rw [hm] at h; cases h
  | some m =>
    obtain ⟨h1, h2⟩ := rnum_back hm
    rw [hm] at h
    unfold rraw at h ⊢
    dsimp only at h ⊢
    split at h
    · cases h
    · rename_i hn
      rw [if_neg hn]
      dsimp only at h ⊢
      cases h
      have hlen : (List.take (rnum s).1 m).length = (rnum s).1 := by rw [List.length_take]; omega
      have e : ((rnum s).1 : Int).toNat = (rnum s).1 := Int.toNat_natCast _
      rw [e, hlen]
      refine ⟨?_, h2⟩
      unfold encRow
      rw [hlen, List.append_assoc, List.take_append_drop]
      exact h1
theorem rbytes_enc (x l : List UInt8) (h : x.length ≤ 4611686018427387904) : rbytes (some (encRow x ++ l)) = (x, some l) := by
  unfold rbytes encRow
  rw [List.append_assoc, rnum_enc _ _ h]
  unfold rraw
  dsimp only
  rw [if_neg (by rw [List.length_append]; omega), Int.toNat_natCast, List.take_left, List.drop_left]
theorem begun_back2 {bs l : List UInt8} (h : begunSt bs 2 = some l) : bs = enc 2 ++ l := by
  unfold begunSt at h
  split at h
  · rename_i h1
    obtain ⟨h2, h3⟩ := rnum_back h
    have h4 : (rnum (some bs)).1 = 2 := by omega
    rw [h4] at h2
    cases h2
    rfl
  · cases h
theorem begun_enc2 (l : List UInt8) : begunSt (enc 2 ++ l) 2 = some l := by
  unfold begunSt
  rw [rnum_enc 2 l (by decide)]
  rfl
theorem enc_inj {a b : Nat} (ha : a ≤ 4611686018427387904) (hb : b ≤ 4611686018427387904) (h : enc a = enc b) : a = b := by
  have h1 := rnum_enc a [] ha
  rw [h, rnum_enc b [] hb] at h1
  cases h1
  rfl
/-- Numbers that may stand in an operation. -/
theorem opok_b {o : Opr} (h : opok o = true) : (0 ≤ o.k ∧ o.k ≤ 4) ∧ (0 ≤ o.c ∧ o.c ≤ 15) ∧ (0 ≤ o.s ∧ o.s ≤ 1048576) ∧ (0 ≤ o.p ∧ o.p ≤ 7) ∧ (0 ≤ o.e ∧ o.e ≤ 100) ∧ (0 ≤ o.t ∧ o.t ≤ 100) ∧ (0 ≤ o.q ∧ o.q ≤ 3) := by
  rw [← opok_eq] at h
  simp only [opok1, prodok, isin_iff, Bool.and_eq_true] at h
  omega
theorem nat_of {x : Int} (h : 0 ≤ x) (hm : x ≤ 4611686018427387904) : ((clampN x : Nat) : Int) = x := by unfold clampN; omega
/-- What is laid as an operation is read as it was, whatever stands behind it. -/
theorem op_read {o : Opr} (h : opok o = true) (l : List UInt8) : oread (begunSt (opb o ++ l) 2) = o ∧ odone (begunSt (opb o ++ l) 2) = some l ∧ ocommit (begunSt (opb o ++ l) 2) ≤ 1 := by
  have hb := opok_b h
  have hn := opok_len h
  obtain ⟨X9, hX9⟩ : ∃ z, z = enc (clampN (cmI o.cm)) ++ l := ⟨_, rfl⟩
  obtain ⟨X8, hX8⟩ : ∃ z, z = enc (clampN o.q) ++ X9 := ⟨_, rfl⟩
  obtain ⟨X7, hX7⟩ : ∃ z, z = enc (clampN o.t) ++ X8 := ⟨_, rfl⟩
  obtain ⟨X6, hX6⟩ : ∃ z, z = enc (clampN o.e) ++ X7 := ⟨_, rfl⟩
  obtain ⟨X5, hX5⟩ : ∃ z, z = enc (clampN o.p) ++ X6 := ⟨_, rfl⟩
  obtain ⟨X4, hX4⟩ : ∃ z, z = encRow o.nm ++ X5 := ⟨_, rfl⟩
  obtain ⟨X3, hX3⟩ : ∃ z, z = enc (clampN o.s) ++ X4 := ⟨_, rfl⟩
  obtain ⟨X2, hX2⟩ : ∃ z, z = enc (clampN o.c) ++ X3 := ⟨_, rfl⟩
  obtain ⟨X1, hX1⟩ : ∃ z, z = enc (clampN o.k) ++ X2 := ⟨_, rfl⟩
  have e : opb o ++ l = enc 2 ++ X1 := by
    have e2 : clampN 2 = 2 := by decide
    rw [hX1, hX2, hX3, hX4, hX5, hX6, hX7, hX8, hX9]
    simp only [opb, encs_cons, encs_nil, e2, List.append_assoc, List.nil_append, List.append_nil]
  rw [e, begun_enc2]
  have r1 : rnum (some X1) = (clampN o.k, some X2) := by rw [hX1]; exact rnum_enc _ _ (clampN_le _)
  have r2 : rnum (some X2) = (clampN o.c, some X3) := by rw [hX2]; exact rnum_enc _ _ (clampN_le _)
  have r3 : rnum (some X3) = (clampN o.s, some X4) := by rw [hX3]; exact rnum_enc _ _ (clampN_le _)
  have r4 : rbytes (some X4) = (o.nm, some X5) := by rw [hX4]; exact rbytes_enc _ _ (by omega)
  have r5 : rnum (some X5) = (clampN o.p, some X6) := by rw [hX5]; exact rnum_enc _ _ (clampN_le _)
  have r6 : rnum (some X6) = (clampN o.e, some X7) := by rw [hX6]; exact rnum_enc _ _ (clampN_le _)
  have r7 : rnum (some X7) = (clampN o.t, some X8) := by rw [hX7]; exact rnum_enc _ _ (clampN_le _)
  have r8 : rnum (some X8) = (clampN o.q, some X9) := by rw [hX8]; exact rnum_enc _ _ (clampN_le _)
  have r9 : rnum (some X9) = (clampN (cmI o.cm), some l) := by rw [hX9]; exact rnum_enc _ _ (clampN_le _)
  have q1 : rsq (some X1) 1 = some X2 := by show (rnum (some X1)).2 = _; rw [r1]
  have q2 : rsq (some X1) 2 = some X3 := by show (rnum (rsq (some X1) 1)).2 = _; rw [q1, r2]
  have q3 : rsq (some X1) 3 = some X4 := by show (rnum (rsq (some X1) 2)).2 = _; rw [q2, r3]
  have q4 : ops4 (some X1) = some X5 := by unfold ops4; rw [q3, r4]
  have p1 : rsq (some X5) 1 = some X6 := by show (rnum (some X5)).2 = _; rw [r5]
  have p2 : rsq (some X5) 2 = some X7 := by show (rnum (rsq (some X5) 1)).2 = _; rw [p1, r6]
  have p3 : rsq (some X5) 3 = some X8 := by show (rnum (rsq (some X5) 2)).2 = _; rw [p2, r7]
  have p4 : rsq (some X5) 4 = some X9 := by show (rnum (rsq (some X5) 3)).2 = _; rw [p3, r8]
  have p5 : rsq (some X5) 5 = some l := by show (rnum (rsq (some X5) 4)).2 = _; rw [p4, r9]
  have c : ocommit (some X1) = clampN (cmI o.cm) := by unfold ocommit; rw [q4, p4, r9]
  have hcm : (((clampN (cmI o.cm) : Nat) : Int) == 1) = o.cm := by cases o.cm <;> decide
  refine ⟨?_, ?_, ?_⟩
  · unfold oread
    rw [c, hcm]
    unfold oread0
    rw [r1, q1, r2, q2, r3, q3, r4, q4, r5, p1, r6, p2, r7, p3, r8]
    rw [nat_of hb.1.1 (by omega), nat_of hb.2.1.1 (by omega), nat_of hb.2.2.1.1 (by omega), nat_of hb.2.2.2.1.1 (by omega), nat_of hb.2.2.2.2.1.1 (by omega), nat_of hb.2.2.2.2.2.1.1 (by omega), nat_of hb.2.2.2.2.2.2.1 (by omega)]
  · unfold odone
    rw [q4, p5]
  · rw [c]
    cases o.cm <;> decide
/-- Bytes that are read to their end are what was read, laid again. -/
theorem op_back {bs : List UInt8} (h : odone (begunSt bs 2) = some []) : ocommit (begunSt bs 2) ≤ 4611686018427387904 ∧ bs = encs [2, (oread0 (begunSt bs 2)).k, (oread0 (begunSt bs 2)).c, (oread0 (begunSt bs 2)).s] ++ encRow (oread0 (begunSt bs 2)).nm ++ (encs [(oread0 (begunSt bs 2)).p, (oread0 (begunSt bs 2)).e, (oread0 (begunSt bs 2)).t, (oread0 (begunSt bs 2)).q] ++ enc (ocommit (begunSt bs 2))) := by
  obtain ⟨s, hs⟩ : ∃ s, s = begunSt bs 2 := ⟨_, rfl⟩
  rw [← hs] at h ⊢
  obtain ⟨h9, b9⟩ := rnum_back (s := rsq (ops4 s) 4) h
  obtain ⟨h8, b8⟩ := rnum_back (s := rsq (ops4 s) 3) h9
  obtain ⟨h7, b7⟩ := rnum_back (s := rsq (ops4 s) 2) h8
  obtain ⟨h6, b6⟩ := rnum_back (s := rsq (ops4 s) 1) h7
  obtain ⟨h5, b5⟩ := rnum_back (s := ops4 s) h6
  obtain ⟨h4, b4⟩ := rbytes_back (s := rsq s 3) h5
  obtain ⟨h3, b3⟩ := rnum_back (s := rsq s 2) h4
  obtain ⟨h2, b2⟩ := rnum_back (s := rsq s 1) h3
  obtain ⟨h1, b1⟩ := rnum_back (s := s) h2
  rw [hs] at h1
  have hb := begun_back2 h1
  rw [← hs] at hb
  refine ⟨b9, ?_⟩
  rw [hb]
  have e2 : clampN 2 = 2 := by decide
  unfold oread0 ocommit
  simp only [encs_cons, encs_nil, clampN_of b1, clampN_of b2, clampN_of b3, clampN_of b5, clampN_of b6, clampN_of b7, clampN_of b8, e2, List.append_assoc, List.nil_append, List.append_nil]
theorem opb_split (o : Opr) : opb o = encs [2, o.k, o.c, o.s] ++ encRow o.nm ++ (encs [o.p, o.e, o.t, o.q] ++ enc (clampN (cmI o.cm))) := by
  unfold opb
  simp only [encs_cons, encs_nil, List.append_assoc, List.nil_append, List.append_nil]
theorem odec_eq (bs : List UInt8) : odec2 bs = odec (begunSt bs 2) := by
  rw [Bool.eq_iff_iff]
  unfold odec odec2
  simp only [Bool.and_eq_true, decide_eq_true_eq]
  constructor
  · rintro ⟨hd, hok, he⟩
    refine ⟨hd, ?_, hok⟩
    obtain ⟨hc, hb⟩ := op_back hd
    rw [opb_split] at he
    have he2 := he.trans hb
    have e3 := List.append_cancel_left (List.append_cancel_left he2)
    have e4 := enc_inj (clampN_le _) hc e3
    rw [← e4]
    cases (oread (begunSt bs 2)).cm <;> decide
  · rintro ⟨hd, hc1, hok⟩
    refine ⟨hd, hok, ?_⟩
    obtain ⟨hc, hb⟩ := op_back hd
    rw [opb_split]
    refine Eq.trans ?_ hb.symm
    have e5 : clampN (cmI (oread (begunSt bs 2)).cm) = ocommit (begunSt bs 2) := by
      show clampN (cmI (((ocommit (begunSt bs 2) : Nat) : Int) == 1)) = _
      rcases (by omega : ocommit (begunSt bs 2) = 0 ∨ ocommit (begunSt bs 2) = 1) with h | h <;> rw [h] <;> decide
    rw [e5]
    rfl
theorem op_more {o : Opr} (h : opok o = true) {l : List UInt8} (hl : 1 ≤ l.length) : odec (begunSt (opb o ++ l) 2) = false := by
  obtain ⟨_, h2, _⟩ := op_read h l
  unfold odec
  rw [h2, decide_eq_false, Bool.false_and]
  intro he
  cases he
  simp at hl
theorem op_cut {o : Opr} (h : opok o = true) {j : Nat} (hj : j < (opb o).length) : odec (begunSt ((opb o).take j) 2) = false := by
  rw [← Bool.not_eq_true, ← odec_eq]
  intro hd
  unfold odec2 at hd
  simp only [Bool.and_eq_true, decide_eq_true_eq] at hd
  obtain ⟨_, hok, he⟩ := hd
  obtain ⟨_, h2, _⟩ := op_read hok ((opb o).drop j)
  rw [he, List.take_append_drop] at h2
  obtain ⟨_, h3, _⟩ := op_read h []
  rw [List.append_nil, h2] at h3
  have h4 : (opb o).drop j = [] := by simpa using h3
  have h5 := List.drop_eq_nil_iff.1 h4
  omega
theorem mdec_eq (bs : List UInt8) : mdec2 bs = mdec (begunSt bs 3) := by
  rw [Bool.eq_iff_iff]
  unfold mdec mdec2
  simp only [Bool.and_eq_true, decide_eq_true_eq]
  constructor
  · rintro ⟨h1, h2, _⟩
    exact ⟨h1, h2⟩
  · rintro ⟨h1, h2⟩
    exact ⟨h1, h2, (four_back h1).symm⟩

end Go.Proofs.YtaglgnjamihdnaaDoor.R
