/- Operations: what an operation's kind names, and may one be? -/
import Derived.Test.YtaglgnjamihdnaaDoorWm
import Derived.Test.YtaglgnjamihdnaaDoorRh
namespace Go.Proofs.YtaglgnjamihdnaaDoor.R
open Go Go.RowKit Go.Proofs
set_option linter.unusedVariables false
set_option linter.unusedSimpArgs false
set_option maxRecDepth 20000

/-- An operation. -/
structure Opr where
  k : Int
  c : Int
  s : Int
  nm : List UInt8
  p : Int
  e : Int
  t : Int
  q : Int
  cm : Bool
abbrev Opr.cs (o : Opr) : List Value := [iv o.k, iv o.c, iv o.s, .string (strOf o.nm), iv o.p, iv o.e, iv o.t, iv o.q, .bool o.cm]
abbrev ocell (b : Nat) (o : Opr) : List Chunk := [(b, .cells o.cs.toArray 23 (0, 0))]
def opZ : Opr := ⟨0, 0, 0, [], 0, 0, 0, 0, false⟩
/-- An operation without what its kind does not name. -/
def Opr.named (o : Opr) : Opr :=
  if o.k = 1 then ⟨o.k, o.c, o.s, o.nm, 0, 0, 0, 0, false⟩
  else if o.k = 2 then ⟨o.k, o.c, o.s, [], o.p, o.e, o.t, o.q, false⟩
  else if o.k = 3 then ⟨o.k, o.c, o.s, [], o.p, o.e, o.t, 0, o.cm⟩
  else ⟨o.k, o.c, o.s, [], 0, 0, 0, 0, false⟩
def Opr.ids (o : Opr) : Bool := o.p == 0 && o.e == 0 && o.t == 0
/-- May an operation be? -/
def opok (o : Opr) : Bool := isin o.c 0 15 && isin o.s 0 1048576 &&
  (if o.k = 1 then nameok o.nm && o.ids && o.q == 0 && !o.cm
   else if o.k = 4 then decide (o.nm = []) && o.ids && o.q == 0 && !o.cm
   else if o.k = 2 then decide (o.nm = []) && prodok o.p o.e o.t && isin o.q 0 3 && !o.cm
   else if o.k = 3 then decide (o.nm = []) && prodok o.p o.e o.t && o.q == 0
   else false)
def Opr.eq (a b : Opr) : Bool := (a.k == b.k) && ((a.c == b.c) && ((a.s == b.s) && (decide (a.nm = b.nm) && ((a.p == b.p) && ((a.e == b.e) && ((a.t == b.t) && ((a.q == b.q) && ((a.cm == b.cm) && true))))))))
def Opr.name1 (o : Opr) : Bool := if o.k = 1 then (!decide (o.nm = [])) && decide (o.nm.length ≤ 8) && o.nm.all isletter else decide (o.nm = [])
def opok1 (o : Opr) : Bool := isin o.k 1 4 && (isin o.c 0 15 && (isin o.s 0 1048576 && (o.name1 && (prodok o.p o.e o.t && (isin o.q 0 3 && o.named.eq o)))))
theorem isin_iff (n a b : Int) : isin n a b = true ↔ a ≤ n ∧ n ≤ b := by unfold isin; rw [decide_eq_true_eq]
theorem Opr.eq_iff (a b : Opr) : a.eq b = true ↔ a = b := by
  obtain ⟨a1, a2, a3, a4, a5, a6, a7, a8, a9⟩ := a
  obtain ⟨b1, b2, b3, b4, b5, b6, b7, b8, b9⟩ := b
  simp only [Opr.eq, Bool.and_true, Bool.and_eq_true, beq_iff_eq, decide_eq_true_eq, Opr.mk.injEq]
theorem opok_eq (o : Opr) : opok1 o = opok o := by
  rw [Bool.eq_iff_iff]
  obtain ⟨k, c, s, nm, p, e, t, q, cm⟩ := o
  by_cases h1 : k = 1
  · subst h1
    simp only [opok1, opok, Opr.name1, Opr.named, Opr.ids, Opr.eq_iff, nameok, prodok, isin_iff, if_true, Bool.and_eq_true, Bool.not_eq_true', decide_eq_true_eq, decide_eq_false_iff_not, beq_iff_eq, Opr.mk.injEq]
    have hn : nm.length = 0 ↔ nm = [] := List.length_eq_zero_iff
    constructor
    · rintro ⟨_, hc, hs, ⟨⟨h1, h2⟩, h3⟩, _, _, _, _, _, _, hp, he, ht, hq, hcm⟩
      refine ⟨⟨hc, hs⟩, ⟨⟨⟨h3, ?_, h2⟩, ⟨hp.symm, he.symm⟩, ht.symm⟩, hq.symm⟩, hcm.symm⟩
      have := mt hn.1 h1
      omega
    · rintro ⟨⟨hc, hs⟩, ⟨⟨⟨h3, h1, h2⟩, ⟨rfl, rfl⟩, rfl⟩, rfl⟩, rfl⟩
      refine ⟨⟨by omega, by omega⟩, hc, hs, ⟨⟨fun h => ?_, h2⟩, h3⟩, ⟨⟨by omega, by omega⟩, by omega⟩, by omega, ?_⟩
      · rw [h] at h1
        exact absurd h1 (by decide)
      · simp
  · by_cases h2 : k = 2
    · subst h2
      simp only [opok1, opok, Opr.name1, Opr.named, Opr.ids, Opr.eq_iff, prodok, isin_iff, if_true, if_false, Bool.and_eq_true, Bool.not_eq_true', decide_eq_true_eq, beq_iff_eq, Opr.mk.injEq, show ¬ (2 : Int) = 1 by decide, show ¬ (2 : Int) = 4 by decide]
      constructor
      · rintro ⟨_, hc, hs, hn, hp, hq, _, _, _, _, _, _, _, _, hcm⟩
        exact ⟨⟨hc, hs⟩, ⟨⟨hn, hp⟩, hq⟩, hcm.symm⟩
      · rintro ⟨⟨hc, hs⟩, ⟨⟨hn, hp⟩, hq⟩, rfl⟩
        refine ⟨⟨by omega, by omega⟩, hc, hs, hn, hp, hq, ?_⟩
        simp [hn]
    · by_cases h3 : k = 3
      · subst h3
        simp only [opok1, opok, Opr.name1, Opr.named, Opr.ids, Opr.eq_iff, prodok, isin_iff, if_true, if_false, Bool.and_eq_true, Bool.not_eq_true', decide_eq_true_eq, beq_iff_eq, Opr.mk.injEq, show ¬ (3 : Int) = 1 by decide, show ¬ (3 : Int) = 4 by decide, show ¬ (3 : Int) = 2 by decide]
        constructor
        · rintro ⟨_, hc, hs, hn, hp, hq, _, _, _, _, _, _, _, hq2, _⟩
          exact ⟨⟨hc, hs⟩, ⟨hn, hp⟩, hq2.symm⟩
        · rintro ⟨⟨hc, hs⟩, ⟨hn, hp⟩, rfl⟩
          refine ⟨⟨by omega, by omega⟩, hc, hs, hn, hp, ⟨by omega, by omega⟩, ?_⟩
          simp [hn]
      · by_cases h4 : k = 4
        · subst h4
          simp only [opok1, opok, Opr.name1, Opr.named, Opr.ids, Opr.eq_iff, prodok, isin_iff, if_true, if_false, Bool.and_eq_true, Bool.not_eq_true', decide_eq_true_eq, beq_iff_eq, Opr.mk.injEq, show ¬ (4 : Int) = 1 by decide, show ¬ (4 : Int) = 3 by decide, show ¬ (4 : Int) = 2 by decide]
          constructor
          · rintro ⟨_, hc, hs, hn, _, _, _, _, _, _, hp, he, ht, hq, hcm⟩
            exact ⟨⟨hc, hs⟩, ⟨⟨hn, ⟨hp.symm, he.symm⟩, ht.symm⟩, hq.symm⟩, hcm.symm⟩
          · rintro ⟨⟨hc, hs⟩, ⟨⟨hn, ⟨rfl, rfl⟩, rfl⟩, rfl⟩, rfl⟩
            refine ⟨⟨by omega, by omega⟩, hc, hs, hn, ⟨⟨by omega, by omega⟩, by omega⟩, ⟨by omega, by omega⟩, ?_⟩
            simp [hn]
        · have hno : ¬ (1 ≤ k ∧ k ≤ 4) := by omega
          simp only [opok1, opok, if_neg h1, if_neg h2, if_neg h3, if_neg h4, isin_iff, Bool.and_eq_true, Bool.and_false, hno, false_and, Bool.false_eq_true]
theorem strOf_isnil (s : List UInt8) : (strOf s == ⟨#[]⟩) = decide (s = []) := strOf_eq s []
theorem Opr.c0 (o : Opr) : o.cs.toArray[0]? = some (.int .i64 o.k) := rfl
theorem Opr.c1 (o : Opr) : o.cs.toArray[1]? = some (.int .i64 o.c) := rfl
theorem Opr.c2 (o : Opr) : o.cs.toArray[2]? = some (.int .i64 o.s) := rfl
theorem Opr.c3 (o : Opr) : o.cs.toArray[3]? = some (.string (strOf o.nm)) := rfl
theorem Opr.c4 (o : Opr) : o.cs.toArray[4]? = some (.int .i64 o.p) := rfl
theorem Opr.c5 (o : Opr) : o.cs.toArray[5]? = some (.int .i64 o.e) := rfl
theorem Opr.c6 (o : Opr) : o.cs.toArray[6]? = some (.int .i64 o.t) := rfl
theorem Opr.c7 (o : Opr) : o.cs.toArray[7]? = some (.int .i64 o.q) := rfl
theorem Opr.c8 (o : Opr) : o.cs.toArray[8]? = some (.bool o.cm) := rfl
theorem eq_op (a b : Opr) (w : World) : (Op.equalIn 10000 23 (.agg a.cs.toArray) (.agg b.cs.toArray)).run Tryd.prog w = .ok (a.eq b) w := by
  have hu : Tryd.prog.underlying 3 = some (.int .i64) := (inferInstance : Und Tryd.prog 3 (.int .i64)).h
  have hs : Tryd.prog.underlying 9 = some .string := (inferInstance : Und Tryd.prog 9 .string).h
  have hb : Tryd.prog.underlying 4 = some .bool := (inferInstance : Und Tryd.prog 4 .bool).h
  rw [run_equalIn_agg w 9999 23 _ _ (by kernel_rfl) (by kernel_rfl)]
  exact eqFields_int (by decide) hu rfl rfl (eqFields_int (by decide) hu rfl rfl (eqFields_int (by decide) hu rfl rfl (eqFields_str (by decide) hs rfl rfl (eqFields_int (by decide) hu rfl rfl (eqFields_int (by decide) hu rfl rfl (eqFields_int (by decide) hu rfl rfl (eqFields_int (by decide) hu rfl rfl (eqFields_bool (by decide) hb rfl rfl eqFields_nil))))))))

theorem named_spec {w0 : World} {o : Opr} : Calls Tryd.prog 37 #[.agg o.cs.toArray] w0 (Ret fun r w => r = .agg o.named.cs.toArray ∧ St w0 [] [] w) := by
  have hS : Own [] w0 := St.start w0
  refine calls_enterC (l := [.agg o.cs.toArray]) (fn := Tryd.f37) Tryd.func37 rfl Tryd.ntmps37 (Nat.le_of_ble_eq_true rfl) ?_
  refine W_seq ?_
  refine W_region ?_
  refine O_box hS rfl rfl rfl (fun b1 w hS => ?_)
  refine O_alloc hS rfl rfl (fun b2 w hS => ?_)
  have hS := hS.f1
  refine O_end ?_
  refine W_seq ?_
  refine W_region ?_
  refine O_fieldAddr rfl rfl rfl ?_
  refine O_load rfl rfl rfl rfl (hS.cell o.c0) ?_
  refine O_fieldAddr rfl rfl rfl ?_
  refine O_load rfl rfl rfl rfl (hS.cell o.c1) ?_
  refine O_fieldAddr rfl rfl rfl ?_
  refine O_load rfl rfl rfl rfl (hS.cell o.c2) ?_
  refine O_build (c := (Opr.mk o.k o.c o.s [] 0 0 0 0 false).cs.toArray) rfl rfl rfl (fun _ => by kernel_rfl) ?_
  refine O_alloc hS rfl rfl (fun b3 w hS => ?_)
  refine O_storeAgg hS rfl rfl rfl rfl rfl (Nat.le_of_ble_eq_true rfl) (fun w hS => ?_)
  have hS := St.whole (vs := (Opr.mk o.k o.c o.s [] 0 0 0 0 false).cs) hS rfl
  refine O_end ?_
  refine W_cut (fun σ w => sub σ [(1, .pointer (some ⟨b1, 0, none⟩)), (2, .pointer (some ⟨b2, 0, none⟩)), (3, .pointer (some ⟨b3, 0, none⟩))] ∧ St w0 [] [ocell b3 o.named, ocell b1 o, ocell b2 opZ] w) ?_ ?_
  · skip
    refine W_seq ?_
    refine W_region ?_
    refine O_fieldAddr rfl rfl rfl ?_
    refine O_load rfl rfl rfl rfl (hS.f1.cell o.c0) ?_
    refine O_end ?_
    refine W_block ?_
    refine W_seq ?_
    refine W_region ?_
    refine O_bin rfl rfl rfl rfl rfl ?_
    refine O_assign rfl rfl rfl ?_
    refine O_end ?_
    refine W_if rfl (fun c13 => ?_) (fun c13 => ?_)
    · skip
      refine W_region ?_
      refine O_fieldAddr rfl rfl rfl ?_
      refine O_load rfl rfl rfl rfl (hS.f1.cell o.c3) ?_
      refine O_fieldAddr rfl rfl rfl ?_
      refine O_store hS rfl rfl rfl rfl (Nat.le_of_ble_eq_true rfl) (fun w hS => ?_)
      refine O_end ?_
      refine ⟨⟨rfl, rfl, rfl, trivial⟩, ?_⟩
      unfold Opr.named
      first
        | (have h := beq_iff_eq.1 c13; rw [if_pos h]; exact hS)
        | (have h1 := beq_eq_false_iff_ne.1 c13; have h := beq_iff_eq.1 c18; rw [if_neg h1, if_pos h]; exact hS)
        | (have h1 := beq_eq_false_iff_ne.1 c13; have h2 := beq_eq_false_iff_ne.1 c18; have h := beq_iff_eq.1 c32; rw [if_neg h1, if_neg h2, if_pos h]; exact hS)
        | (have h1 := beq_eq_false_iff_ne.1 c13; have h2 := beq_eq_false_iff_ne.1 c18; have h := beq_eq_false_iff_ne.1 c32; rw [if_neg h1, if_neg h2, if_neg h]; exact hS)
    · skip
      refine W_seq ?_
      refine W_region ?_
      refine O_bin rfl rfl rfl rfl rfl ?_
      refine O_assign rfl rfl rfl ?_
      refine O_end ?_
      refine W_if rfl (fun c18 => ?_) (fun c18 => ?_)
      · skip
        refine W_drawn (fun w => ∃ x, St w0 [] [[(b3, .cells x 23 (0, 0))], ocell b1 o, ocell b2 opZ] w) ?_
        have hS := hS.drew
        refine OA_take 0 rfl (by kernel_rfl) (by kernel_rfl) (by kernel_rfl) rfl rfl ⟨_, hS⟩ (fun w ⟨_, hS⟩ => E_fieldAddr rfl) ?_
        refine OA_take 1 rfl (by kernel_rfl) (by kernel_rfl) (by kernel_rfl) rfl rfl ⟨_, hS⟩ (fun w ⟨_, hS⟩ => E_load rfl rfl (St.cell (St.f1 hS) o.c4)) ?_
        refine OA_take 2 rfl (by kernel_rfl) (by kernel_rfl) (by kernel_rfl) rfl rfl ⟨_, hS⟩ (fun w ⟨_, hS⟩ => E_fieldAddr rfl) ?_
        refine OA_take 3 rfl (by kernel_rfl) (by kernel_rfl) (by kernel_rfl) rfl rfl ⟨_, hS⟩ (fun w ⟨_, hS⟩ => E_load rfl rfl (St.cell (St.f1 hS) o.c5)) ?_
        refine OA_take 4 rfl (by kernel_rfl) (by kernel_rfl) (by kernel_rfl) rfl rfl ⟨_, hS⟩ (fun w ⟨_, hS⟩ => E_fieldAddr rfl) ?_
        refine OA_take 5 rfl (by kernel_rfl) (by kernel_rfl) (by kernel_rfl) rfl rfl ⟨_, hS⟩ (fun w ⟨_, hS⟩ => E_load rfl rfl (St.cell (St.f1 hS) o.c6)) ?_
        refine OA_take 6 rfl (by kernel_rfl) (by kernel_rfl) (by kernel_rfl) rfl rfl ⟨_, hS⟩ (fun w ⟨_, hS⟩ => E_fieldAddr rfl) ?_
        refine OA_take 7 rfl (by kernel_rfl) (by kernel_rfl) (by kernel_rfl) rfl rfl ⟨_, hS⟩ (fun w ⟨_, hS⟩ => E_load rfl rfl (St.cell (St.f1 hS) o.c7)) ?_
        refine OA_take 8 rfl (by kernel_rfl) (by kernel_rfl) (by kernel_rfl) rfl rfl ⟨_, hS⟩ (fun w ⟨_, hS⟩ => E_fieldAddr rfl) ?_
        refine OA_one 9 rfl (by kernel_rfl) ?_
        refine O_store hS rfl rfl rfl rfl (Nat.le_of_ble_eq_true rfl) (fun w hS => ?_)
        refine O_end ⟨⟨_, hS⟩, ?_⟩
        refine OA_take 10 rfl (by kernel_rfl) (by kernel_rfl) (by kernel_rfl) rfl rfl ⟨_, hS⟩ (fun w ⟨_, hS⟩ => E_fieldAddr rfl) ?_
        refine OA_one 11 rfl (by kernel_rfl) ?_
        refine O_store hS rfl rfl rfl rfl (Nat.le_of_ble_eq_true rfl) (fun w hS => ?_)
        refine O_end ⟨⟨_, hS⟩, ?_⟩
        refine OA_take 12 rfl (by kernel_rfl) (by kernel_rfl) (by kernel_rfl) rfl rfl ⟨_, hS⟩ (fun w ⟨_, hS⟩ => E_fieldAddr rfl) ?_
        refine OA_one 13 rfl (by kernel_rfl) ?_
        refine O_store hS rfl rfl rfl rfl (Nat.le_of_ble_eq_true rfl) (fun w hS => ?_)
        refine O_end ⟨⟨_, hS⟩, ?_⟩
        refine OA_take 14 rfl (by kernel_rfl) (by kernel_rfl) (by kernel_rfl) rfl rfl ⟨_, hS⟩ (fun w ⟨_, hS⟩ => E_fieldAddr rfl) ?_
        refine OA_one 15 rfl (by kernel_rfl) ?_
        refine O_store hS rfl rfl rfl rfl (Nat.le_of_ble_eq_true rfl) (fun w hS => ?_)
        refine O_end ⟨⟨_, hS⟩, ?_⟩
        refine OA_end (by kernel_rfl) ?_
        refine ⟨⟨rfl, rfl, rfl, trivial⟩, ?_⟩
        unfold Opr.named
        first
          | (have h := beq_iff_eq.1 c13; rw [if_pos h]; exact hS)
          | (have h1 := beq_eq_false_iff_ne.1 c13; have h := beq_iff_eq.1 c18; rw [if_neg h1, if_pos h]; exact hS)
          | (have h1 := beq_eq_false_iff_ne.1 c13; have h2 := beq_eq_false_iff_ne.1 c18; have h := beq_iff_eq.1 c32; rw [if_neg h1, if_neg h2, if_pos h]; exact hS)
          | (have h1 := beq_eq_false_iff_ne.1 c13; have h2 := beq_eq_false_iff_ne.1 c18; have h := beq_eq_false_iff_ne.1 c32; rw [if_neg h1, if_neg h2, if_neg h]; exact hS)
      · skip
        refine W_seq ?_
        refine W_region ?_
        refine O_bin rfl rfl rfl rfl rfl ?_
        refine O_assign rfl rfl rfl ?_
        refine O_end ?_
        refine W_if rfl (fun c32 => ?_) (fun c32 => ?_)
        · skip
          refine W_drawn (fun w => ∃ x, St w0 [] [[(b3, .cells x 23 (0, 0))], ocell b1 o, ocell b2 opZ] w) ?_
          have hS := hS.drew
          refine OA_take 0 rfl (by kernel_rfl) (by kernel_rfl) (by kernel_rfl) rfl rfl ⟨_, hS⟩ (fun w ⟨_, hS⟩ => E_fieldAddr rfl) ?_
          refine OA_take 1 rfl (by kernel_rfl) (by kernel_rfl) (by kernel_rfl) rfl rfl ⟨_, hS⟩ (fun w ⟨_, hS⟩ => E_load rfl rfl (St.cell (St.f1 hS) o.c4)) ?_
          refine OA_take 2 rfl (by kernel_rfl) (by kernel_rfl) (by kernel_rfl) rfl rfl ⟨_, hS⟩ (fun w ⟨_, hS⟩ => E_fieldAddr rfl) ?_
          refine OA_take 3 rfl (by kernel_rfl) (by kernel_rfl) (by kernel_rfl) rfl rfl ⟨_, hS⟩ (fun w ⟨_, hS⟩ => E_load rfl rfl (St.cell (St.f1 hS) o.c5)) ?_
          refine OA_take 4 rfl (by kernel_rfl) (by kernel_rfl) (by kernel_rfl) rfl rfl ⟨_, hS⟩ (fun w ⟨_, hS⟩ => E_fieldAddr rfl) ?_
          refine OA_take 5 rfl (by kernel_rfl) (by kernel_rfl) (by kernel_rfl) rfl rfl ⟨_, hS⟩ (fun w ⟨_, hS⟩ => E_load rfl rfl (St.cell (St.f1 hS) o.c6)) ?_
          refine OA_take 6 rfl (by kernel_rfl) (by kernel_rfl) (by kernel_rfl) rfl rfl ⟨_, hS⟩ (fun w ⟨_, hS⟩ => E_fieldAddr rfl) ?_
          refine OA_take 7 rfl (by kernel_rfl) (by kernel_rfl) (by kernel_rfl) rfl rfl ⟨_, hS⟩ (fun w ⟨_, hS⟩ => E_load rfl rfl (St.cell (St.f1 hS) o.c8)) ?_
          refine OA_take 8 rfl (by kernel_rfl) (by kernel_rfl) (by kernel_rfl) rfl rfl ⟨_, hS⟩ (fun w ⟨_, hS⟩ => E_fieldAddr rfl) ?_
          refine OA_one 9 rfl (by kernel_rfl) ?_
          refine O_store hS rfl rfl rfl rfl (Nat.le_of_ble_eq_true rfl) (fun w hS => ?_)
          refine O_end ⟨⟨_, hS⟩, ?_⟩
          refine OA_take 10 rfl (by kernel_rfl) (by kernel_rfl) (by kernel_rfl) rfl rfl ⟨_, hS⟩ (fun w ⟨_, hS⟩ => E_fieldAddr rfl) ?_
          refine OA_one 11 rfl (by kernel_rfl) ?_
          refine O_store hS rfl rfl rfl rfl (Nat.le_of_ble_eq_true rfl) (fun w hS => ?_)
          refine O_end ⟨⟨_, hS⟩, ?_⟩
          refine OA_take 12 rfl (by kernel_rfl) (by kernel_rfl) (by kernel_rfl) rfl rfl ⟨_, hS⟩ (fun w ⟨_, hS⟩ => E_fieldAddr rfl) ?_
          refine OA_one 13 rfl (by kernel_rfl) ?_
          refine O_store hS rfl rfl rfl rfl (Nat.le_of_ble_eq_true rfl) (fun w hS => ?_)
          refine O_end ⟨⟨_, hS⟩, ?_⟩
          refine OA_take 14 rfl (by kernel_rfl) (by kernel_rfl) (by kernel_rfl) rfl rfl ⟨_, hS⟩ (fun w ⟨_, hS⟩ => E_fieldAddr rfl) ?_
          refine OA_one 15 rfl (by kernel_rfl) ?_
          refine O_store hS rfl rfl rfl rfl (Nat.le_of_ble_eq_true rfl) (fun w hS => ?_)
          refine O_end ⟨⟨_, hS⟩, ?_⟩
          refine OA_end (by kernel_rfl) ?_
          refine ⟨⟨rfl, rfl, rfl, trivial⟩, ?_⟩
          unfold Opr.named
          first
            | (have h := beq_iff_eq.1 c13; rw [if_pos h]; exact hS)
            | (have h1 := beq_eq_false_iff_ne.1 c13; have h := beq_iff_eq.1 c18; rw [if_neg h1, if_pos h]; exact hS)
            | (have h1 := beq_eq_false_iff_ne.1 c13; have h2 := beq_eq_false_iff_ne.1 c18; have h := beq_iff_eq.1 c32; rw [if_neg h1, if_neg h2, if_pos h]; exact hS)
            | (have h1 := beq_eq_false_iff_ne.1 c13; have h2 := beq_eq_false_iff_ne.1 c18; have h := beq_eq_false_iff_ne.1 c32; rw [if_neg h1, if_neg h2, if_neg h]; exact hS)
        · skip
          refine W_skip ?_
          refine ⟨⟨rfl, rfl, rfl, trivial⟩, ?_⟩
          unfold Opr.named
          first
            | (have h := beq_iff_eq.1 c13; rw [if_pos h]; exact hS)
            | (have h1 := beq_eq_false_iff_ne.1 c13; have h := beq_iff_eq.1 c18; rw [if_neg h1, if_pos h]; exact hS)
            | (have h1 := beq_eq_false_iff_ne.1 c13; have h2 := beq_eq_false_iff_ne.1 c18; have h := beq_iff_eq.1 c32; rw [if_neg h1, if_neg h2, if_pos h]; exact hS)
            | (have h1 := beq_eq_false_iff_ne.1 c13; have h2 := beq_eq_false_iff_ne.1 c18; have h := beq_eq_false_iff_ne.1 c32; rw [if_neg h1, if_neg h2, if_neg h]; exact hS)
  · skip
    rintro σ w ⟨hs, hS⟩
    refine W_weak [(1, .pointer (some ⟨b1, 0, none⟩)), (2, .pointer (some ⟨b2, 0, none⟩)), (3, .pointer (some ⟨b3, 0, none⟩))] hs ?_
    refine W_seq ?_
    refine W_region ?_
    refine O_loadAgg (vs := o.named.cs) rfl rfl rfl rfl rfl hS.rdAll ?_
    refine O_storeAgg hS.f2 rfl rfl rfl rfl rfl (Nat.le_of_ble_eq_true rfl) (fun w hS => ?_)
    have hS := St.whole (vs := o.named.cs) hS rfl
    refine O_end ?_
    refine W_ret ⟨_, res_cell Tryd.results37 rfl rfl rfl (hS.rdAll), ?_⟩
    exact ⟨rfl, hS.bare⟩

set_option maxHeartbeats 1000000 in
theorem isOp_spec {w0 : World} {o : Opr} : Calls Tryd.prog 18 #[.agg o.cs.toArray] w0 (Ret fun r w => r = .bool (opok o) ∧ St w0 [] [] w) := by
  have hS : Own [] w0 := St.start w0
  refine calls_enter (l := [.agg o.cs.toArray]) Tryd.func18 rfl Tryd.ntmps18 Tryd.results18 (Nat.le_of_ble_eq_true rfl) ?_
  refine W_seq ?_
  refine W_region ?_
  refine O_box hS rfl rfl rfl (fun b1 w hS => ?_)
  refine O_assign rfl rfl rfl ?_
  refine O_end ?_
  refine W_seq ?_
  refine W_region ?_
  refine O_fieldAddr rfl rfl rfl ?_
  refine O_load rfl rfl rfl rfl (hS.cell o.c3) ?_
  refine O_eql_str rfl rfl rfl rfl ?_
  refine O_know 6 (.bool (decide (o.nm = []))) rfl (congrArg Value.bool (strOf_isnil o.nm)) ?_
  refine O_assign rfl rfl rfl ?_
  refine O_end ?_
  refine W_cut (fun σ w => sub σ [(1, .pointer (some ⟨b1, 0, none⟩)), (3, .bool o.name1)] ∧ St w0 [] [ocell b1 o] w) ?_ ?_
  · skip
    refine W_seq ?_
    refine W_region ?_
    refine O_fieldAddr rfl rfl rfl ?_
    refine O_load rfl rfl rfl rfl (hS.cell o.c0) ?_
    refine O_bin rfl rfl rfl rfl rfl ?_
    refine O_end ?_
    refine W_if rfl (fun c9 => ?_) (fun c9 => ?_)
    · skip
      refine W_region ?_
      refine O_fieldAddr rfl rfl rfl ?_
      refine O_load rfl rfl rfl rfl (hS.cell o.c3) ?_
      refine O_neq_str rfl rfl rfl rfl (strOf_isnil o.nm) ?_
      refine O_move rfl rfl rfl ?_
      refine O_part 13 rfl (fun c13 => ?_) (fun c13 => ?_)
      · skip
        refine O_fieldAddr rfl rfl rfl ?_
        refine O_load rfl rfl rfl rfl (hS.cell o.c3) ?_
        refine O_lenstr rfl rfl rfl rfl ?_
        refine O_bin rfl rfl rfl rfl rfl ?_
        first | refine O_pick_true rfl rfl rfl rfl ?_ | refine O_pick_false rfl rfl rfl rfl ?_
        refine O_move rfl rfl rfl ?_
        refine O_part 19 rfl (fun c19 => ?_) (fun c19 => ?_)
        · skip
          refine O_fieldAddr rfl rfl rfl ?_
          refine O_load rfl rfl rfl rfl (hS.cell o.c3) ?_
          have hne : o.nm ≠ [] := by simpa using c13
          have hle : o.nm.length ≤ 8 := by have := of_decide_eq_true c19; omega
          have hcall := trim_spec (w0 := w) hne (by omega)
          refine O_call rfl rfl rfl hcall (fun r w ⟨hz, hk⟩ => ?_)
          subst hz
          have hS := hS.after0 hk
          refine O_eql_str rfl rfl rfl rfl ?_
          refine O_know 23 (.bool (o.nm.all isletter)) rfl (congrArg Value.bool ((strOf_isnil _).trans (trimB_nil o.nm))) ?_
          first | refine O_pick_true rfl rfl rfl rfl ?_ | refine O_pick_false rfl rfl rfl rfl ?_
          refine O_assign rfl rfl rfl ?_
          refine O_end ?_
          refine ⟨⟨rfl, congrArg (fun b => some (Value.bool b)) ?_, trivial⟩, hS⟩
          unfold Opr.name1
          simp_all
          all_goals (intro h; omega)
        · skip
          refine O_skip rfl rfl ?_
          refine O_skip rfl rfl ?_
          refine O_skip rfl rfl ?_
          refine O_skip rfl rfl ?_
          first | refine O_pick_true rfl rfl rfl rfl ?_ | refine O_pick_false rfl rfl rfl rfl ?_
          refine O_assign rfl rfl rfl ?_
          refine O_end ?_
          refine ⟨⟨rfl, congrArg (fun b => some (Value.bool b)) ?_, trivial⟩, hS⟩
          unfold Opr.name1
          simp_all
          all_goals (intro h; omega)
      · skip
        refine O_skip rfl rfl ?_
        refine O_skip rfl rfl ?_
        refine O_skip rfl rfl ?_
        refine O_skip rfl rfl ?_
        first | refine O_pick_true rfl rfl rfl rfl ?_ | refine O_pick_false rfl rfl rfl rfl ?_
        refine O_move rfl rfl rfl ?_
        refine O_know 19 (.bool false) rfl (congrArg Value.bool (rfl)) ?_
        refine O_skip rfl rfl ?_
        refine O_skip rfl rfl ?_
        refine O_skip rfl rfl ?_
        refine O_skip rfl rfl ?_
        first | refine O_pick_true rfl rfl rfl rfl ?_ | refine O_pick_false rfl rfl rfl rfl ?_
        refine O_assign rfl rfl rfl ?_
        refine O_end ?_
        refine ⟨⟨rfl, congrArg (fun b => some (Value.bool b)) ?_, trivial⟩, hS⟩
        unfold Opr.name1
        simp_all
        all_goals (intro h; omega)
    · skip
      refine W_skip ?_
      refine ⟨⟨rfl, congrArg (fun b => some (Value.bool b)) ?_, trivial⟩, hS⟩
      unfold Opr.name1
      simp_all
      all_goals (intro h; omega)
  · skip
    rintro σ w ⟨hs, hS⟩
    refine W_weak [(1, .pointer (some ⟨b1, 0, none⟩)), (3, .bool o.name1)] hs ?_
    refine W_seq ?_
    refine W_drawn (fun w => ∃ Gs, St w0 [] ([ocell b1 o] ++ Gs) w) ?_
    have hS := hS.drew
    refine OA_take 0 rfl (by kernel_rfl) (by kernel_rfl) (by kernel_rfl) rfl rfl ⟨_, hS⟩ (fun w ⟨_, hS⟩ => E_fieldAddr rfl) ?_
    refine OA_take 1 rfl (by kernel_rfl) (by kernel_rfl) (by kernel_rfl) rfl rfl ⟨_, hS⟩ (fun w ⟨_, hS⟩ => E_load rfl rfl (St.cell hS o.c0)) ?_
    refine OA_one 2 rfl (by kernel_rfl) ?_
    have hcall := isIn_spec (w0 := w.drew) (n := o.k) (a := 1) (b := 4)
    refine O_call rfl rfl rfl hcall (fun r w ⟨hz, hk⟩ => ?_)
    subst hz
    have hS := hS.after0 hk
    refine O_end ⟨⟨_, hS⟩, ?_⟩
    refine OA_take 3 rfl (by kernel_rfl) (by kernel_rfl) (by kernel_rfl) rfl rfl ⟨_, hS⟩ (fun w ⟨_, hS⟩ => E_move rfl) ?_
    refine OA_part 28 rfl (fun c28 => ?_) (fun c28 => ?_)
    · skip
      refine OA_take 4 rfl (by kernel_rfl) (by kernel_rfl) (by kernel_rfl) rfl rfl ⟨_, hS⟩ (fun w ⟨_, hS⟩ => E_fieldAddr rfl) ?_
      refine OA_take 5 rfl (by kernel_rfl) (by kernel_rfl) (by kernel_rfl) rfl rfl ⟨_, hS⟩ (fun w ⟨_, hS⟩ => E_load rfl rfl (St.cell hS o.c1)) ?_
      refine OA_one 6 rfl (by kernel_rfl) ?_
      have hcall := isIn_spec (w0 := w) (n := o.c) (a := 0) (b := 15)
      refine O_call rfl rfl rfl hcall (fun r w ⟨hz, hk⟩ => ?_)
      subst hz
      have hS := hS.after0 hk
      refine O_end ⟨⟨_, hS⟩, ?_⟩
      first | refine OA_take 7 rfl (by kernel_rfl) (by kernel_rfl) (by kernel_rfl) rfl rfl ⟨_, hS⟩ (fun w ⟨_, hS⟩ => E_pick_true rfl rfl) ?_ | refine OA_take 7 rfl (by kernel_rfl) (by kernel_rfl) (by kernel_rfl) rfl rfl ⟨_, hS⟩ (fun w ⟨_, hS⟩ => E_pick_false rfl rfl) ?_
      refine OA_take 8 rfl (by kernel_rfl) (by kernel_rfl) (by kernel_rfl) rfl rfl ⟨_, hS⟩ (fun w ⟨_, hS⟩ => E_move rfl) ?_
      refine OA_part 33 rfl (fun c33 => ?_) (fun c33 => ?_)
      · skip
        refine OA_take 9 rfl (by kernel_rfl) (by kernel_rfl) (by kernel_rfl) rfl rfl ⟨_, hS⟩ (fun w ⟨_, hS⟩ => E_fieldAddr rfl) ?_
        refine OA_take 10 rfl (by kernel_rfl) (by kernel_rfl) (by kernel_rfl) rfl rfl ⟨_, hS⟩ (fun w ⟨_, hS⟩ => E_load rfl rfl (St.cell hS o.c2)) ?_
        refine OA_one 11 rfl (by kernel_rfl) ?_
        have hcall := isIn_spec (w0 := w) (n := o.s) (a := 0) (b := 1048576)
        refine O_call rfl rfl rfl hcall (fun r w ⟨hz, hk⟩ => ?_)
        subst hz
        have hS := hS.after0 hk
        refine O_end ⟨⟨_, hS⟩, ?_⟩
        first | refine OA_take 12 rfl (by kernel_rfl) (by kernel_rfl) (by kernel_rfl) rfl rfl ⟨_, hS⟩ (fun w ⟨_, hS⟩ => E_pick_true rfl rfl) ?_ | refine OA_take 12 rfl (by kernel_rfl) (by kernel_rfl) (by kernel_rfl) rfl rfl ⟨_, hS⟩ (fun w ⟨_, hS⟩ => E_pick_false rfl rfl) ?_
        refine OA_take 13 rfl (by kernel_rfl) (by kernel_rfl) (by kernel_rfl) rfl rfl ⟨_, hS⟩ (fun w ⟨_, hS⟩ => E_move rfl) ?_
        refine OA_part 38 rfl (fun c38 => ?_) (fun c38 => ?_)
        · skip
          refine OA_take 14 rfl (by kernel_rfl) (by kernel_rfl) (by kernel_rfl) rfl rfl ⟨_, hS⟩ (fun w ⟨_, hS⟩ => E_move rfl) ?_
          first | refine OA_take 15 rfl (by kernel_rfl) (by kernel_rfl) (by kernel_rfl) rfl rfl ⟨_, hS⟩ (fun w ⟨_, hS⟩ => E_pick_true rfl rfl) ?_ | refine OA_take 15 rfl (by kernel_rfl) (by kernel_rfl) (by kernel_rfl) rfl rfl ⟨_, hS⟩ (fun w ⟨_, hS⟩ => E_pick_false rfl rfl) ?_
          refine OA_take 16 rfl (by kernel_rfl) (by kernel_rfl) (by kernel_rfl) rfl rfl ⟨_, hS⟩ (fun w ⟨_, hS⟩ => E_move rfl) ?_
          refine OA_part 41 rfl (fun c41 => ?_) (fun c41 => ?_)
          · skip
            refine OA_take 17 rfl (by kernel_rfl) (by kernel_rfl) (by kernel_rfl) rfl rfl ⟨_, hS⟩ (fun w ⟨_, hS⟩ => E_fieldAddr rfl) ?_
            refine OA_take 18 rfl (by kernel_rfl) (by kernel_rfl) (by kernel_rfl) rfl rfl ⟨_, hS⟩ (fun w ⟨_, hS⟩ => E_load rfl rfl (St.cell hS o.c4)) ?_
            refine OA_take 19 rfl (by kernel_rfl) (by kernel_rfl) (by kernel_rfl) rfl rfl ⟨_, hS⟩ (fun w ⟨_, hS⟩ => E_fieldAddr rfl) ?_
            refine OA_take 20 rfl (by kernel_rfl) (by kernel_rfl) (by kernel_rfl) rfl rfl ⟨_, hS⟩ (fun w ⟨_, hS⟩ => E_load rfl rfl (St.cell hS o.c5)) ?_
            refine OA_take 21 rfl (by kernel_rfl) (by kernel_rfl) (by kernel_rfl) rfl rfl ⟨_, hS⟩ (fun w ⟨_, hS⟩ => E_fieldAddr rfl) ?_
            refine OA_take 22 rfl (by kernel_rfl) (by kernel_rfl) (by kernel_rfl) rfl rfl ⟨_, hS⟩ (fun w ⟨_, hS⟩ => E_load rfl rfl (St.cell hS o.c6)) ?_
            refine OA_one 23 rfl (by kernel_rfl) ?_
            have hcall := isProducer_spec (w0 := w) (p := o.p) (e := o.e) (t := o.t)
            refine O_call rfl rfl rfl hcall (fun r w ⟨hz, hk⟩ => ?_)
            subst hz
            have hS := hS.after0 hk
            refine O_end ⟨⟨_, hS⟩, ?_⟩
            first | refine OA_take 24 rfl (by kernel_rfl) (by kernel_rfl) (by kernel_rfl) rfl rfl ⟨_, hS⟩ (fun w ⟨_, hS⟩ => E_pick_true rfl rfl) ?_ | refine OA_take 24 rfl (by kernel_rfl) (by kernel_rfl) (by kernel_rfl) rfl rfl ⟨_, hS⟩ (fun w ⟨_, hS⟩ => E_pick_false rfl rfl) ?_
            refine OA_take 25 rfl (by kernel_rfl) (by kernel_rfl) (by kernel_rfl) rfl rfl ⟨_, hS⟩ (fun w ⟨_, hS⟩ => E_move rfl) ?_
            refine OA_part 50 rfl (fun c50 => ?_) (fun c50 => ?_)
            · skip
              refine OA_take 26 rfl (by kernel_rfl) (by kernel_rfl) (by kernel_rfl) rfl rfl ⟨_, hS⟩ (fun w ⟨_, hS⟩ => E_fieldAddr rfl) ?_
              refine OA_take 27 rfl (by kernel_rfl) (by kernel_rfl) (by kernel_rfl) rfl rfl ⟨_, hS⟩ (fun w ⟨_, hS⟩ => E_load rfl rfl (St.cell hS o.c7)) ?_
              refine OA_one 28 rfl (by kernel_rfl) ?_
              have hcall := isIn_spec (w0 := w) (n := o.q) (a := 0) (b := 3)
              refine O_call rfl rfl rfl hcall (fun r w ⟨hz, hk⟩ => ?_)
              subst hz
              have hS := hS.after0 hk
              refine O_end ⟨⟨_, hS⟩, ?_⟩
              first | refine OA_take 29 rfl (by kernel_rfl) (by kernel_rfl) (by kernel_rfl) rfl rfl ⟨_, hS⟩ (fun w ⟨_, hS⟩ => E_pick_true rfl rfl) ?_ | refine OA_take 29 rfl (by kernel_rfl) (by kernel_rfl) (by kernel_rfl) rfl rfl ⟨_, hS⟩ (fun w ⟨_, hS⟩ => E_pick_false rfl rfl) ?_
              refine OA_take 30 rfl (by kernel_rfl) (by kernel_rfl) (by kernel_rfl) rfl rfl ⟨_, hS⟩ (fun w ⟨_, hS⟩ => E_move rfl) ?_
              refine OA_part 55 rfl (fun c55 => ?_) (fun c55 => ?_)
              · skip
                refine OA_take 31 rfl (by kernel_rfl) (by kernel_rfl) (by kernel_rfl) rfl rfl ⟨_, hS⟩ (fun w ⟨_, hS⟩ => E_loadAgg (vs := o.cs) rfl rfl rfl (St.rdAll hS)) ?_
                refine OA_take 33 rfl (by kernel_rfl) (by kernel_rfl) (by kernel_rfl) rfl rfl ⟨_, hS⟩ (fun w ⟨_, hS⟩ => E_loadAgg (vs := o.cs) rfl rfl rfl (St.rdAll hS)) ?_
                refine OA_one 32 rfl (by kernel_rfl) ?_
                have hcall := named_spec (w0 := w) (o := o)
                refine O_call rfl rfl rfl hcall (fun r w ⟨hz, hk⟩ => ?_)
                subst hz
                have hS := hS.after0 hk
                refine O_end ⟨⟨_, hS⟩, ?_⟩
                refine OA_take 34 rfl (by kernel_rfl) (by kernel_rfl) (by kernel_rfl) rfl rfl ⟨_, hS⟩ (fun w ⟨_, hS⟩ => E_eql_agg rfl rfl (by kernel_rfl) (fun w => eq_op _ _ w)) ?_
                first | refine OA_take 35 rfl (by kernel_rfl) (by kernel_rfl) (by kernel_rfl) rfl rfl ⟨_, hS⟩ (fun w ⟨_, hS⟩ => E_pick_true rfl rfl) ?_ | refine OA_take 35 rfl (by kernel_rfl) (by kernel_rfl) (by kernel_rfl) rfl rfl ⟨_, hS⟩ (fun w ⟨_, hS⟩ => E_pick_false rfl rfl) ?_
                refine OA_take 36 rfl (by kernel_rfl) (by kernel_rfl) (by kernel_rfl) rfl rfl ⟨_, hS⟩ (fun w ⟨_, hS⟩ => E_assign rfl) ?_
                refine OA_end (by kernel_rfl) ?_
                refine W_ret ⟨_, rfl, ?_⟩
                refine ⟨congrArg Value.bool ?_, hS.bare⟩
                rw [← opok_eq]
                unfold opok1
                simp_all
              · skip
                refine OA_pass 31 rfl (by kernel_rfl) (by kernel_rfl) (by kernel_rfl) rfl rfl ⟨_, hS⟩ ?_
                refine OA_pass 33 rfl (by kernel_rfl) (by kernel_rfl) (by kernel_rfl) rfl rfl ⟨_, hS⟩ ?_
                refine OA_pass 32 rfl (by kernel_rfl) (by kernel_rfl) (by kernel_rfl) rfl rfl ⟨_, hS⟩ ?_
                refine OA_pass 34 rfl (by kernel_rfl) (by kernel_rfl) (by kernel_rfl) rfl rfl ⟨_, hS⟩ ?_
                first | refine OA_take 35 rfl (by kernel_rfl) (by kernel_rfl) (by kernel_rfl) rfl rfl ⟨_, hS⟩ (fun w ⟨_, hS⟩ => E_pick_true rfl rfl) ?_ | refine OA_take 35 rfl (by kernel_rfl) (by kernel_rfl) (by kernel_rfl) rfl rfl ⟨_, hS⟩ (fun w ⟨_, hS⟩ => E_pick_false rfl rfl) ?_
                refine OA_take 36 rfl (by kernel_rfl) (by kernel_rfl) (by kernel_rfl) rfl rfl ⟨_, hS⟩ (fun w ⟨_, hS⟩ => E_assign rfl) ?_
                refine OA_end (by kernel_rfl) ?_
                refine W_ret ⟨_, rfl, ?_⟩
                refine ⟨congrArg Value.bool ?_, hS.bare⟩
                rw [← opok_eq]
                unfold opok1
                simp_all
            · skip
              refine OA_pass 26 rfl (by kernel_rfl) (by kernel_rfl) (by kernel_rfl) rfl rfl ⟨_, hS⟩ ?_
              refine OA_pass 27 rfl (by kernel_rfl) (by kernel_rfl) (by kernel_rfl) rfl rfl ⟨_, hS⟩ ?_
              refine OA_pass 28 rfl (by kernel_rfl) (by kernel_rfl) (by kernel_rfl) rfl rfl ⟨_, hS⟩ ?_
              first | refine OA_take 29 rfl (by kernel_rfl) (by kernel_rfl) (by kernel_rfl) rfl rfl ⟨_, hS⟩ (fun w ⟨_, hS⟩ => E_pick_true rfl rfl) ?_ | refine OA_take 29 rfl (by kernel_rfl) (by kernel_rfl) (by kernel_rfl) rfl rfl ⟨_, hS⟩ (fun w ⟨_, hS⟩ => E_pick_false rfl rfl) ?_
              refine OA_take 30 rfl (by kernel_rfl) (by kernel_rfl) (by kernel_rfl) rfl rfl ⟨_, hS⟩ (fun w ⟨_, hS⟩ => E_move rfl) ?_
              refine OA_pass 31 rfl (by kernel_rfl) (by kernel_rfl) (by kernel_rfl) rfl rfl ⟨_, hS⟩ ?_
              refine OA_pass 33 rfl (by kernel_rfl) (by kernel_rfl) (by kernel_rfl) rfl rfl ⟨_, hS⟩ ?_
              refine OA_pass 32 rfl (by kernel_rfl) (by kernel_rfl) (by kernel_rfl) rfl rfl ⟨_, hS⟩ ?_
              refine OA_pass 34 rfl (by kernel_rfl) (by kernel_rfl) (by kernel_rfl) rfl rfl ⟨_, hS⟩ ?_
              first | refine OA_take 35 rfl (by kernel_rfl) (by kernel_rfl) (by kernel_rfl) rfl rfl ⟨_, hS⟩ (fun w ⟨_, hS⟩ => E_pick_true rfl rfl) ?_ | refine OA_take 35 rfl (by kernel_rfl) (by kernel_rfl) (by kernel_rfl) rfl rfl ⟨_, hS⟩ (fun w ⟨_, hS⟩ => E_pick_false rfl rfl) ?_
              refine OA_take 36 rfl (by kernel_rfl) (by kernel_rfl) (by kernel_rfl) rfl rfl ⟨_, hS⟩ (fun w ⟨_, hS⟩ => E_assign rfl) ?_
              refine OA_end (by kernel_rfl) ?_
              refine W_ret ⟨_, rfl, ?_⟩
              refine ⟨congrArg Value.bool ?_, hS.bare⟩
              rw [← opok_eq]
              unfold opok1
              simp_all
          · skip
            refine OA_pass 17 rfl (by kernel_rfl) (by kernel_rfl) (by kernel_rfl) rfl rfl ⟨_, hS⟩ ?_
            refine OA_pass 18 rfl (by kernel_rfl) (by kernel_rfl) (by kernel_rfl) rfl rfl ⟨_, hS⟩ ?_
            refine OA_pass 19 rfl (by kernel_rfl) (by kernel_rfl) (by kernel_rfl) rfl rfl ⟨_, hS⟩ ?_
            refine OA_pass 20 rfl (by kernel_rfl) (by kernel_rfl) (by kernel_rfl) rfl rfl ⟨_, hS⟩ ?_
            refine OA_pass 21 rfl (by kernel_rfl) (by kernel_rfl) (by kernel_rfl) rfl rfl ⟨_, hS⟩ ?_
            refine OA_pass 22 rfl (by kernel_rfl) (by kernel_rfl) (by kernel_rfl) rfl rfl ⟨_, hS⟩ ?_
            refine OA_pass 23 rfl (by kernel_rfl) (by kernel_rfl) (by kernel_rfl) rfl rfl ⟨_, hS⟩ ?_
            first | refine OA_take 24 rfl (by kernel_rfl) (by kernel_rfl) (by kernel_rfl) rfl rfl ⟨_, hS⟩ (fun w ⟨_, hS⟩ => E_pick_true rfl rfl) ?_ | refine OA_take 24 rfl (by kernel_rfl) (by kernel_rfl) (by kernel_rfl) rfl rfl ⟨_, hS⟩ (fun w ⟨_, hS⟩ => E_pick_false rfl rfl) ?_
            refine OA_take 25 rfl (by kernel_rfl) (by kernel_rfl) (by kernel_rfl) rfl rfl ⟨_, hS⟩ (fun w ⟨_, hS⟩ => E_move rfl) ?_
            refine OA_pass 26 rfl (by kernel_rfl) (by kernel_rfl) (by kernel_rfl) rfl rfl ⟨_, hS⟩ ?_
            refine OA_pass 27 rfl (by kernel_rfl) (by kernel_rfl) (by kernel_rfl) rfl rfl ⟨_, hS⟩ ?_
            refine OA_pass 28 rfl (by kernel_rfl) (by kernel_rfl) (by kernel_rfl) rfl rfl ⟨_, hS⟩ ?_
            first | refine OA_take 29 rfl (by kernel_rfl) (by kernel_rfl) (by kernel_rfl) rfl rfl ⟨_, hS⟩ (fun w ⟨_, hS⟩ => E_pick_true rfl rfl) ?_ | refine OA_take 29 rfl (by kernel_rfl) (by kernel_rfl) (by kernel_rfl) rfl rfl ⟨_, hS⟩ (fun w ⟨_, hS⟩ => E_pick_false rfl rfl) ?_
            refine OA_take 30 rfl (by kernel_rfl) (by kernel_rfl) (by kernel_rfl) rfl rfl ⟨_, hS⟩ (fun w ⟨_, hS⟩ => E_move rfl) ?_
            refine OA_pass 31 rfl (by kernel_rfl) (by kernel_rfl) (by kernel_rfl) rfl rfl ⟨_, hS⟩ ?_
            refine OA_pass 33 rfl (by kernel_rfl) (by kernel_rfl) (by kernel_rfl) rfl rfl ⟨_, hS⟩ ?_
            refine OA_pass 32 rfl (by kernel_rfl) (by kernel_rfl) (by kernel_rfl) rfl rfl ⟨_, hS⟩ ?_
            refine OA_pass 34 rfl (by kernel_rfl) (by kernel_rfl) (by kernel_rfl) rfl rfl ⟨_, hS⟩ ?_
            first | refine OA_take 35 rfl (by kernel_rfl) (by kernel_rfl) (by kernel_rfl) rfl rfl ⟨_, hS⟩ (fun w ⟨_, hS⟩ => E_pick_true rfl rfl) ?_ | refine OA_take 35 rfl (by kernel_rfl) (by kernel_rfl) (by kernel_rfl) rfl rfl ⟨_, hS⟩ (fun w ⟨_, hS⟩ => E_pick_false rfl rfl) ?_
            refine OA_take 36 rfl (by kernel_rfl) (by kernel_rfl) (by kernel_rfl) rfl rfl ⟨_, hS⟩ (fun w ⟨_, hS⟩ => E_assign rfl) ?_
            refine OA_end (by kernel_rfl) ?_
            refine W_ret ⟨_, rfl, ?_⟩
            refine ⟨congrArg Value.bool ?_, hS.bare⟩
            rw [← opok_eq]
            unfold opok1
            simp_all
        · skip
          refine OA_pass 14 rfl (by kernel_rfl) (by kernel_rfl) (by kernel_rfl) rfl rfl ⟨_, hS⟩ ?_
          first | refine OA_take 15 rfl (by kernel_rfl) (by kernel_rfl) (by kernel_rfl) rfl rfl ⟨_, hS⟩ (fun w ⟨_, hS⟩ => E_pick_true rfl rfl) ?_ | refine OA_take 15 rfl (by kernel_rfl) (by kernel_rfl) (by kernel_rfl) rfl rfl ⟨_, hS⟩ (fun w ⟨_, hS⟩ => E_pick_false rfl rfl) ?_
          refine OA_take 16 rfl (by kernel_rfl) (by kernel_rfl) (by kernel_rfl) rfl rfl ⟨_, hS⟩ (fun w ⟨_, hS⟩ => E_move rfl) ?_
          refine OA_pass 17 rfl (by kernel_rfl) (by kernel_rfl) (by kernel_rfl) rfl rfl ⟨_, hS⟩ ?_
          refine OA_pass 18 rfl (by kernel_rfl) (by kernel_rfl) (by kernel_rfl) rfl rfl ⟨_, hS⟩ ?_
          refine OA_pass 19 rfl (by kernel_rfl) (by kernel_rfl) (by kernel_rfl) rfl rfl ⟨_, hS⟩ ?_
          refine OA_pass 20 rfl (by kernel_rfl) (by kernel_rfl) (by kernel_rfl) rfl rfl ⟨_, hS⟩ ?_
          refine OA_pass 21 rfl (by kernel_rfl) (by kernel_rfl) (by kernel_rfl) rfl rfl ⟨_, hS⟩ ?_
          refine OA_pass 22 rfl (by kernel_rfl) (by kernel_rfl) (by kernel_rfl) rfl rfl ⟨_, hS⟩ ?_
          refine OA_pass 23 rfl (by kernel_rfl) (by kernel_rfl) (by kernel_rfl) rfl rfl ⟨_, hS⟩ ?_
          first | refine OA_take 24 rfl (by kernel_rfl) (by kernel_rfl) (by kernel_rfl) rfl rfl ⟨_, hS⟩ (fun w ⟨_, hS⟩ => E_pick_true rfl rfl) ?_ | refine OA_take 24 rfl (by kernel_rfl) (by kernel_rfl) (by kernel_rfl) rfl rfl ⟨_, hS⟩ (fun w ⟨_, hS⟩ => E_pick_false rfl rfl) ?_
          refine OA_take 25 rfl (by kernel_rfl) (by kernel_rfl) (by kernel_rfl) rfl rfl ⟨_, hS⟩ (fun w ⟨_, hS⟩ => E_move rfl) ?_
          refine OA_pass 26 rfl (by kernel_rfl) (by kernel_rfl) (by kernel_rfl) rfl rfl ⟨_, hS⟩ ?_
          refine OA_pass 27 rfl (by kernel_rfl) (by kernel_rfl) (by kernel_rfl) rfl rfl ⟨_, hS⟩ ?_
          refine OA_pass 28 rfl (by kernel_rfl) (by kernel_rfl) (by kernel_rfl) rfl rfl ⟨_, hS⟩ ?_
          first | refine OA_take 29 rfl (by kernel_rfl) (by kernel_rfl) (by kernel_rfl) rfl rfl ⟨_, hS⟩ (fun w ⟨_, hS⟩ => E_pick_true rfl rfl) ?_ | refine OA_take 29 rfl (by kernel_rfl) (by kernel_rfl) (by kernel_rfl) rfl rfl ⟨_, hS⟩ (fun w ⟨_, hS⟩ => E_pick_false rfl rfl) ?_
          refine OA_take 30 rfl (by kernel_rfl) (by kernel_rfl) (by kernel_rfl) rfl rfl ⟨_, hS⟩ (fun w ⟨_, hS⟩ => E_move rfl) ?_
          refine OA_pass 31 rfl (by kernel_rfl) (by kernel_rfl) (by kernel_rfl) rfl rfl ⟨_, hS⟩ ?_
          refine OA_pass 33 rfl (by kernel_rfl) (by kernel_rfl) (by kernel_rfl) rfl rfl ⟨_, hS⟩ ?_
          refine OA_pass 32 rfl (by kernel_rfl) (by kernel_rfl) (by kernel_rfl) rfl rfl ⟨_, hS⟩ ?_
          refine OA_pass 34 rfl (by kernel_rfl) (by kernel_rfl) (by kernel_rfl) rfl rfl ⟨_, hS⟩ ?_
          first | refine OA_take 35 rfl (by kernel_rfl) (by kernel_rfl) (by kernel_rfl) rfl rfl ⟨_, hS⟩ (fun w ⟨_, hS⟩ => E_pick_true rfl rfl) ?_ | refine OA_take 35 rfl (by kernel_rfl) (by kernel_rfl) (by kernel_rfl) rfl rfl ⟨_, hS⟩ (fun w ⟨_, hS⟩ => E_pick_false rfl rfl) ?_
          refine OA_take 36 rfl (by kernel_rfl) (by kernel_rfl) (by kernel_rfl) rfl rfl ⟨_, hS⟩ (fun w ⟨_, hS⟩ => E_assign rfl) ?_
          refine OA_end (by kernel_rfl) ?_
          refine W_ret ⟨_, rfl, ?_⟩
          refine ⟨congrArg Value.bool ?_, hS.bare⟩
          rw [← opok_eq]
          unfold opok1
          simp_all
      · skip
        refine OA_pass 9 rfl (by kernel_rfl) (by kernel_rfl) (by kernel_rfl) rfl rfl ⟨_, hS⟩ ?_
        refine OA_pass 10 rfl (by kernel_rfl) (by kernel_rfl) (by kernel_rfl) rfl rfl ⟨_, hS⟩ ?_
        refine OA_pass 11 rfl (by kernel_rfl) (by kernel_rfl) (by kernel_rfl) rfl rfl ⟨_, hS⟩ ?_
        first | refine OA_take 12 rfl (by kernel_rfl) (by kernel_rfl) (by kernel_rfl) rfl rfl ⟨_, hS⟩ (fun w ⟨_, hS⟩ => E_pick_true rfl rfl) ?_ | refine OA_take 12 rfl (by kernel_rfl) (by kernel_rfl) (by kernel_rfl) rfl rfl ⟨_, hS⟩ (fun w ⟨_, hS⟩ => E_pick_false rfl rfl) ?_
        refine OA_take 13 rfl (by kernel_rfl) (by kernel_rfl) (by kernel_rfl) rfl rfl ⟨_, hS⟩ (fun w ⟨_, hS⟩ => E_move rfl) ?_
        refine OA_pass 14 rfl (by kernel_rfl) (by kernel_rfl) (by kernel_rfl) rfl rfl ⟨_, hS⟩ ?_
        first | refine OA_take 15 rfl (by kernel_rfl) (by kernel_rfl) (by kernel_rfl) rfl rfl ⟨_, hS⟩ (fun w ⟨_, hS⟩ => E_pick_true rfl rfl) ?_ | refine OA_take 15 rfl (by kernel_rfl) (by kernel_rfl) (by kernel_rfl) rfl rfl ⟨_, hS⟩ (fun w ⟨_, hS⟩ => E_pick_false rfl rfl) ?_
        refine OA_take 16 rfl (by kernel_rfl) (by kernel_rfl) (by kernel_rfl) rfl rfl ⟨_, hS⟩ (fun w ⟨_, hS⟩ => E_move rfl) ?_
        refine OA_pass 17 rfl (by kernel_rfl) (by kernel_rfl) (by kernel_rfl) rfl rfl ⟨_, hS⟩ ?_
        refine OA_pass 18 rfl (by kernel_rfl) (by kernel_rfl) (by kernel_rfl) rfl rfl ⟨_, hS⟩ ?_
        refine OA_pass 19 rfl (by kernel_rfl) (by kernel_rfl) (by kernel_rfl) rfl rfl ⟨_, hS⟩ ?_
        refine OA_pass 20 rfl (by kernel_rfl) (by kernel_rfl) (by kernel_rfl) rfl rfl ⟨_, hS⟩ ?_
        refine OA_pass 21 rfl (by kernel_rfl) (by kernel_rfl) (by kernel_rfl) rfl rfl ⟨_, hS⟩ ?_
        refine OA_pass 22 rfl (by kernel_rfl) (by kernel_rfl) (by kernel_rfl) rfl rfl ⟨_, hS⟩ ?_
        refine OA_pass 23 rfl (by kernel_rfl) (by kernel_rfl) (by kernel_rfl) rfl rfl ⟨_, hS⟩ ?_
        first | refine OA_take 24 rfl (by kernel_rfl) (by kernel_rfl) (by kernel_rfl) rfl rfl ⟨_, hS⟩ (fun w ⟨_, hS⟩ => E_pick_true rfl rfl) ?_ | refine OA_take 24 rfl (by kernel_rfl) (by kernel_rfl) (by kernel_rfl) rfl rfl ⟨_, hS⟩ (fun w ⟨_, hS⟩ => E_pick_false rfl rfl) ?_
        refine OA_take 25 rfl (by kernel_rfl) (by kernel_rfl) (by kernel_rfl) rfl rfl ⟨_, hS⟩ (fun w ⟨_, hS⟩ => E_move rfl) ?_
        refine OA_pass 26 rfl (by kernel_rfl) (by kernel_rfl) (by kernel_rfl) rfl rfl ⟨_, hS⟩ ?_
        refine OA_pass 27 rfl (by kernel_rfl) (by kernel_rfl) (by kernel_rfl) rfl rfl ⟨_, hS⟩ ?_
        refine OA_pass 28 rfl (by kernel_rfl) (by kernel_rfl) (by kernel_rfl) rfl rfl ⟨_, hS⟩ ?_
        first | refine OA_take 29 rfl (by kernel_rfl) (by kernel_rfl) (by kernel_rfl) rfl rfl ⟨_, hS⟩ (fun w ⟨_, hS⟩ => E_pick_true rfl rfl) ?_ | refine OA_take 29 rfl (by kernel_rfl) (by kernel_rfl) (by kernel_rfl) rfl rfl ⟨_, hS⟩ (fun w ⟨_, hS⟩ => E_pick_false rfl rfl) ?_
        refine OA_take 30 rfl (by kernel_rfl) (by kernel_rfl) (by kernel_rfl) rfl rfl ⟨_, hS⟩ (fun w ⟨_, hS⟩ => E_move rfl) ?_
        refine OA_pass 31 rfl (by kernel_rfl) (by kernel_rfl) (by kernel_rfl) rfl rfl ⟨_, hS⟩ ?_
        refine OA_pass 33 rfl (by kernel_rfl) (by kernel_rfl) (by kernel_rfl) rfl rfl ⟨_, hS⟩ ?_
        refine OA_pass 32 rfl (by kernel_rfl) (by kernel_rfl) (by kernel_rfl) rfl rfl ⟨_, hS⟩ ?_
        refine OA_pass 34 rfl (by kernel_rfl) (by kernel_rfl) (by kernel_rfl) rfl rfl ⟨_, hS⟩ ?_
        first | refine OA_take 35 rfl (by kernel_rfl) (by kernel_rfl) (by kernel_rfl) rfl rfl ⟨_, hS⟩ (fun w ⟨_, hS⟩ => E_pick_true rfl rfl) ?_ | refine OA_take 35 rfl (by kernel_rfl) (by kernel_rfl) (by kernel_rfl) rfl rfl ⟨_, hS⟩ (fun w ⟨_, hS⟩ => E_pick_false rfl rfl) ?_
        refine OA_take 36 rfl (by kernel_rfl) (by kernel_rfl) (by kernel_rfl) rfl rfl ⟨_, hS⟩ (fun w ⟨_, hS⟩ => E_assign rfl) ?_
        refine OA_end (by kernel_rfl) ?_
        refine W_ret ⟨_, rfl, ?_⟩
        refine ⟨congrArg Value.bool ?_, hS.bare⟩
        rw [← opok_eq]
        unfold opok1
        simp_all
    · skip
      refine OA_pass 4 rfl (by kernel_rfl) (by kernel_rfl) (by kernel_rfl) rfl rfl ⟨_, hS⟩ ?_
      refine OA_pass 5 rfl (by kernel_rfl) (by kernel_rfl) (by kernel_rfl) rfl rfl ⟨_, hS⟩ ?_
      refine OA_pass 6 rfl (by kernel_rfl) (by kernel_rfl) (by kernel_rfl) rfl rfl ⟨_, hS⟩ ?_
      first | refine OA_take 7 rfl (by kernel_rfl) (by kernel_rfl) (by kernel_rfl) rfl rfl ⟨_, hS⟩ (fun w ⟨_, hS⟩ => E_pick_true rfl rfl) ?_ | refine OA_take 7 rfl (by kernel_rfl) (by kernel_rfl) (by kernel_rfl) rfl rfl ⟨_, hS⟩ (fun w ⟨_, hS⟩ => E_pick_false rfl rfl) ?_
      refine OA_take 8 rfl (by kernel_rfl) (by kernel_rfl) (by kernel_rfl) rfl rfl ⟨_, hS⟩ (fun w ⟨_, hS⟩ => E_move rfl) ?_
      refine OA_pass 9 rfl (by kernel_rfl) (by kernel_rfl) (by kernel_rfl) rfl rfl ⟨_, hS⟩ ?_
      refine OA_pass 10 rfl (by kernel_rfl) (by kernel_rfl) (by kernel_rfl) rfl rfl ⟨_, hS⟩ ?_
      refine OA_pass 11 rfl (by kernel_rfl) (by kernel_rfl) (by kernel_rfl) rfl rfl ⟨_, hS⟩ ?_
      first | refine OA_take 12 rfl (by kernel_rfl) (by kernel_rfl) (by kernel_rfl) rfl rfl ⟨_, hS⟩ (fun w ⟨_, hS⟩ => E_pick_true rfl rfl) ?_ | refine OA_take 12 rfl (by kernel_rfl) (by kernel_rfl) (by kernel_rfl) rfl rfl ⟨_, hS⟩ (fun w ⟨_, hS⟩ => E_pick_false rfl rfl) ?_
      refine OA_take 13 rfl (by kernel_rfl) (by kernel_rfl) (by kernel_rfl) rfl rfl ⟨_, hS⟩ (fun w ⟨_, hS⟩ => E_move rfl) ?_
      refine OA_pass 14 rfl (by kernel_rfl) (by kernel_rfl) (by kernel_rfl) rfl rfl ⟨_, hS⟩ ?_
      first | refine OA_take 15 rfl (by kernel_rfl) (by kernel_rfl) (by kernel_rfl) rfl rfl ⟨_, hS⟩ (fun w ⟨_, hS⟩ => E_pick_true rfl rfl) ?_ | refine OA_take 15 rfl (by kernel_rfl) (by kernel_rfl) (by kernel_rfl) rfl rfl ⟨_, hS⟩ (fun w ⟨_, hS⟩ => E_pick_false rfl rfl) ?_
      refine OA_take 16 rfl (by kernel_rfl) (by kernel_rfl) (by kernel_rfl) rfl rfl ⟨_, hS⟩ (fun w ⟨_, hS⟩ => E_move rfl) ?_
      refine OA_pass 17 rfl (by kernel_rfl) (by kernel_rfl) (by kernel_rfl) rfl rfl ⟨_, hS⟩ ?_
      refine OA_pass 18 rfl (by kernel_rfl) (by kernel_rfl) (by kernel_rfl) rfl rfl ⟨_, hS⟩ ?_
      refine OA_pass 19 rfl (by kernel_rfl) (by kernel_rfl) (by kernel_rfl) rfl rfl ⟨_, hS⟩ ?_
      refine OA_pass 20 rfl (by kernel_rfl) (by kernel_rfl) (by kernel_rfl) rfl rfl ⟨_, hS⟩ ?_
      refine OA_pass 21 rfl (by kernel_rfl) (by kernel_rfl) (by kernel_rfl) rfl rfl ⟨_, hS⟩ ?_
      refine OA_pass 22 rfl (by kernel_rfl) (by kernel_rfl) (by kernel_rfl) rfl rfl ⟨_, hS⟩ ?_
      refine OA_pass 23 rfl (by kernel_rfl) (by kernel_rfl) (by kernel_rfl) rfl rfl ⟨_, hS⟩ ?_
      first | refine OA_take 24 rfl (by kernel_rfl) (by kernel_rfl) (by kernel_rfl) rfl rfl ⟨_, hS⟩ (fun w ⟨_, hS⟩ => E_pick_true rfl rfl) ?_ | refine OA_take 24 rfl (by kernel_rfl) (by kernel_rfl) (by kernel_rfl) rfl rfl ⟨_, hS⟩ (fun w ⟨_, hS⟩ => E_pick_false rfl rfl) ?_
      refine OA_take 25 rfl (by kernel_rfl) (by kernel_rfl) (by kernel_rfl) rfl rfl ⟨_, hS⟩ (fun w ⟨_, hS⟩ => E_move rfl) ?_
      refine OA_pass 26 rfl (by kernel_rfl) (by kernel_rfl) (by kernel_rfl) rfl rfl ⟨_, hS⟩ ?_
      refine OA_pass 27 rfl (by kernel_rfl) (by kernel_rfl) (by kernel_rfl) rfl rfl ⟨_, hS⟩ ?_
      refine OA_pass 28 rfl (by kernel_rfl) (by kernel_rfl) (by kernel_rfl) rfl rfl ⟨_, hS⟩ ?_
      first | refine OA_take 29 rfl (by kernel_rfl) (by kernel_rfl) (by kernel_rfl) rfl rfl ⟨_, hS⟩ (fun w ⟨_, hS⟩ => E_pick_true rfl rfl) ?_ | refine OA_take 29 rfl (by kernel_rfl) (by kernel_rfl) (by kernel_rfl) rfl rfl ⟨_, hS⟩ (fun w ⟨_, hS⟩ => E_pick_false rfl rfl) ?_
      refine OA_take 30 rfl (by kernel_rfl) (by kernel_rfl) (by kernel_rfl) rfl rfl ⟨_, hS⟩ (fun w ⟨_, hS⟩ => E_move rfl) ?_
      refine OA_pass 31 rfl (by kernel_rfl) (by kernel_rfl) (by kernel_rfl) rfl rfl ⟨_, hS⟩ ?_
      refine OA_pass 33 rfl (by kernel_rfl) (by kernel_rfl) (by kernel_rfl) rfl rfl ⟨_, hS⟩ ?_
      refine OA_pass 32 rfl (by kernel_rfl) (by kernel_rfl) (by kernel_rfl) rfl rfl ⟨_, hS⟩ ?_
      refine OA_pass 34 rfl (by kernel_rfl) (by kernel_rfl) (by kernel_rfl) rfl rfl ⟨_, hS⟩ ?_
      first | refine OA_take 35 rfl (by kernel_rfl) (by kernel_rfl) (by kernel_rfl) rfl rfl ⟨_, hS⟩ (fun w ⟨_, hS⟩ => E_pick_true rfl rfl) ?_ | refine OA_take 35 rfl (by kernel_rfl) (by kernel_rfl) (by kernel_rfl) rfl rfl ⟨_, hS⟩ (fun w ⟨_, hS⟩ => E_pick_false rfl rfl) ?_
      refine OA_take 36 rfl (by kernel_rfl) (by kernel_rfl) (by kernel_rfl) rfl rfl ⟨_, hS⟩ (fun w ⟨_, hS⟩ => E_assign rfl) ?_
      refine OA_end (by kernel_rfl) ?_
      refine W_ret ⟨_, rfl, ?_⟩
      refine ⟨congrArg Value.bool ?_, hS.bare⟩
      rw [← opok_eq]
      unfold opok1
      simp_all

set_option maxHeartbeats 1000000 in
theorem IsOp_spec {w0 : World} {o : Opr} (hl : o.nm.length ≤ 9223372036854775807) : Calls Tryd.prog 6 #[.agg o.cs.toArray] w0 (Ret fun r w => r = .bool (opok o) ∧ St w0 [] [] w) := by
  have hS : Own [] w0 := St.start w0
  refine calls_enter (l := [.agg o.cs.toArray]) Tryd.func6 rfl Tryd.ntmps6 Tryd.results6 (Nat.le_of_ble_eq_true rfl) ?_
  refine W_seq ?_
  refine W_region ?_
  refine O_box hS rfl rfl rfl (fun b1 w hS => ?_)
  refine O_assign rfl rfl rfl ?_
  refine O_end ?_
  refine W_seq ?_
  refine W_seq ?_
  refine W_region ?_
  refine O_fieldAddr rfl rfl rfl ?_
  refine O_load rfl rfl rfl rfl (hS.cell o.c1) ?_
  have hcall := in_spec (w0 := w) (n := o.c) (a := 0) (b := 15)
  refine O_call rfl rfl rfl hcall (fun r w ⟨hz, hk⟩ => ?_)
  subst hz
  have hS := hS.after0 hk
  refine O_not rfl rfl rfl ?_
  refine O_move rfl rfl rfl ?_
  refine O_part 9 rfl (fun c9 => ?_) (fun c9 => ?_)
  · skip
    refine O_skip rfl rfl ?_
    refine O_skip rfl rfl ?_
    refine O_skip rfl rfl ?_
    refine O_skip rfl rfl ?_
    first | refine O_pick_true rfl rfl rfl rfl ?_ | refine O_pick_false rfl rfl rfl rfl ?_
    refine O_end ?_
    refine W_if_true rfl (rfl) ?_
    refine W_seq ?_
    refine W_region ?_
    refine O_assign rfl rfl rfl ?_
    refine O_end ?_
    refine W_ret ⟨_, rfl, ?_⟩
    refine ⟨congrArg Value.bool ?_, hS.bare⟩
    unfold opok
    simp_all
  · skip
    refine O_fieldAddr rfl rfl rfl ?_
    refine O_load rfl rfl rfl rfl (hS.cell o.c2) ?_
    have hcall := in_spec (w0 := w) (n := o.s) (a := 0) (b := 1048576)
    refine O_call rfl rfl rfl hcall (fun r w ⟨hz, hk⟩ => ?_)
    subst hz
    have hS := hS.after0 hk
    refine O_not rfl rfl rfl ?_
    first | refine O_pick_true rfl rfl rfl rfl ?_ | refine O_pick_false rfl rfl rfl rfl ?_
    refine O_end ?_
    refine W_if rfl (fun c14 => ?_) (fun c14 => ?_)
    · skip
      refine W_seq ?_
      refine W_region ?_
      refine O_assign rfl rfl rfl ?_
      refine O_end ?_
      refine W_ret ⟨_, rfl, ?_⟩
      refine ⟨congrArg Value.bool ?_, hS.bare⟩
      unfold opok
      simp_all
    · skip
      refine W_skip ?_
      refine W_cut (fun σ w => sub σ [(1, .pointer (some ⟨b1, 0, none⟩)), (3, .bool o.ids)] ∧ St w0 [] [ocell b1 o] w) ?_ ?_
      · skip
        refine W_region ?_
        refine O_fieldAddr rfl rfl rfl ?_
        refine O_load rfl rfl rfl rfl (hS.cell o.c4) ?_
        refine O_bin rfl rfl rfl rfl rfl ?_
        refine O_move rfl rfl rfl ?_
        refine O_part 18 rfl (fun c18 => ?_) (fun c18 => ?_)
        · skip
          refine O_fieldAddr rfl rfl rfl ?_
          refine O_load rfl rfl rfl rfl (hS.cell o.c5) ?_
          refine O_bin rfl rfl rfl rfl rfl ?_
          first | refine O_pick_true rfl rfl rfl rfl ?_ | refine O_pick_false rfl rfl rfl rfl ?_
          refine O_move rfl rfl rfl ?_
          refine O_part 23 rfl (fun c23 => ?_) (fun c23 => ?_)
          · skip
            refine O_fieldAddr rfl rfl rfl ?_
            refine O_load rfl rfl rfl rfl (hS.cell o.c6) ?_
            refine O_bin rfl rfl rfl rfl rfl ?_
            first | refine O_pick_true rfl rfl rfl rfl ?_ | refine O_pick_false rfl rfl rfl rfl ?_
            refine O_assign rfl rfl rfl ?_
            refine O_end ?_
            refine ⟨⟨rfl, congrArg (fun b => some (Value.bool b)) ?_, trivial⟩, hS⟩
            unfold Opr.ids
            simp_all
          · skip
            refine O_skip rfl rfl ?_
            refine O_skip rfl rfl ?_
            refine O_skip rfl rfl ?_
            first | refine O_pick_true rfl rfl rfl rfl ?_ | refine O_pick_false rfl rfl rfl rfl ?_
            refine O_assign rfl rfl rfl ?_
            refine O_end ?_
            refine ⟨⟨rfl, congrArg (fun b => some (Value.bool b)) ?_, trivial⟩, hS⟩
            unfold Opr.ids
            simp_all
        · skip
          refine O_skip rfl rfl ?_
          refine O_skip rfl rfl ?_
          refine O_skip rfl rfl ?_
          first | refine O_pick_true rfl rfl rfl rfl ?_ | refine O_pick_false rfl rfl rfl rfl ?_
          refine O_move rfl rfl rfl ?_
          refine O_know 23 (.bool false) rfl (congrArg Value.bool (rfl)) ?_
          refine O_skip rfl rfl ?_
          refine O_skip rfl rfl ?_
          refine O_skip rfl rfl ?_
          first | refine O_pick_true rfl rfl rfl rfl ?_ | refine O_pick_false rfl rfl rfl rfl ?_
          refine O_assign rfl rfl rfl ?_
          refine O_end ?_
          refine ⟨⟨rfl, congrArg (fun b => some (Value.bool b)) ?_, trivial⟩, hS⟩
          unfold Opr.ids
          simp_all
      · skip
        rintro σ w ⟨hs, hS⟩
        refine W_weak [(1, .pointer (some ⟨b1, 0, none⟩)), (3, .bool o.ids)] hs ?_
        refine W_seq ?_
        refine W_seq ?_
        refine W_region ?_
        refine O_fieldAddr rfl rfl rfl ?_
        refine O_load rfl rfl rfl rfl (hS.cell o.c0) ?_
        refine O_end ?_
        refine W_block ?_
        refine W_seq ?_
        refine W_region ?_
        refine O_bin rfl rfl rfl rfl rfl ?_
        refine O_assign rfl rfl rfl ?_
        refine O_end ?_
        refine W_if rfl (fun c30 => ?_) (fun c30 => ?_)
        · skip
          refine W_seq ?_
          refine W_region ?_
          refine O_fieldAddr rfl rfl rfl ?_
          refine O_load rfl rfl rfl rfl (hS.cell o.c3) ?_
          have hcall := Name_spec (w0 := w) (s := o.nm) hl
          refine O_call rfl rfl rfl hcall (fun r w ⟨hz, hk⟩ => ?_)
          subst hz
          have hS := hS.after0 hk
          refine O_move rfl rfl rfl ?_
          refine O_part 35 rfl (fun c35 => ?_) (fun c35 => ?_)
          · skip
            refine O_move rfl rfl rfl ?_
            first | refine O_pick_true rfl rfl rfl rfl ?_ | refine O_pick_false rfl rfl rfl rfl ?_
            refine O_move rfl rfl rfl ?_
            refine O_part 38 rfl (fun c38 => ?_) (fun c38 => ?_)
            · skip
              refine O_fieldAddr rfl rfl rfl ?_
              refine O_load rfl rfl rfl rfl (hS.cell o.c7) ?_
              refine O_bin rfl rfl rfl rfl rfl ?_
              first | refine O_pick_true rfl rfl rfl rfl ?_ | refine O_pick_false rfl rfl rfl rfl ?_
              refine O_move rfl rfl rfl ?_
              refine O_part 43 rfl (fun c43 => ?_) (fun c43 => ?_)
              · skip
                refine O_fieldAddr rfl rfl rfl ?_
                refine O_load rfl rfl rfl rfl (hS.cell o.c8) ?_
                refine O_not rfl rfl rfl ?_
                first | refine O_pick_true rfl rfl rfl rfl ?_ | refine O_pick_false rfl rfl rfl rfl ?_
                refine O_assign rfl rfl rfl ?_
                refine O_end ?_
                refine W_ret ⟨_, rfl, ?_⟩
                refine ⟨congrArg Value.bool ?_, hS.bare⟩
                unfold opok
                simp_all
              · skip
                refine O_skip rfl rfl ?_
                refine O_skip rfl rfl ?_
                refine O_skip rfl rfl ?_
                first | refine O_pick_true rfl rfl rfl rfl ?_ | refine O_pick_false rfl rfl rfl rfl ?_
                refine O_assign rfl rfl rfl ?_
                refine O_end ?_
                refine W_ret ⟨_, rfl, ?_⟩
                refine ⟨congrArg Value.bool ?_, hS.bare⟩
                unfold opok
                simp_all
            · skip
              refine O_skip rfl rfl ?_
              refine O_skip rfl rfl ?_
              refine O_skip rfl rfl ?_
              first | refine O_pick_true rfl rfl rfl rfl ?_ | refine O_pick_false rfl rfl rfl rfl ?_
              refine O_move rfl rfl rfl ?_
              refine O_know 43 (.bool false) rfl (congrArg Value.bool (rfl)) ?_
              refine O_skip rfl rfl ?_
              refine O_skip rfl rfl ?_
              refine O_skip rfl rfl ?_
              first | refine O_pick_true rfl rfl rfl rfl ?_ | refine O_pick_false rfl rfl rfl rfl ?_
              refine O_assign rfl rfl rfl ?_
              refine O_end ?_
              refine W_ret ⟨_, rfl, ?_⟩
              refine ⟨congrArg Value.bool ?_, hS.bare⟩
              unfold opok
              simp_all
          · skip
            refine O_skip rfl rfl ?_
            first | refine O_pick_true rfl rfl rfl rfl ?_ | refine O_pick_false rfl rfl rfl rfl ?_
            refine O_move rfl rfl rfl ?_
            refine O_know 38 (.bool false) rfl (congrArg Value.bool (rfl)) ?_
            refine O_skip rfl rfl ?_
            refine O_skip rfl rfl ?_
            refine O_skip rfl rfl ?_
            first | refine O_pick_true rfl rfl rfl rfl ?_ | refine O_pick_false rfl rfl rfl rfl ?_
            refine O_move rfl rfl rfl ?_
            refine O_know 43 (.bool false) rfl (congrArg Value.bool (rfl)) ?_
            refine O_skip rfl rfl ?_
            refine O_skip rfl rfl ?_
            refine O_skip rfl rfl ?_
            first | refine O_pick_true rfl rfl rfl rfl ?_ | refine O_pick_false rfl rfl rfl rfl ?_
            refine O_assign rfl rfl rfl ?_
            refine O_end ?_
            refine W_ret ⟨_, rfl, ?_⟩
            refine ⟨congrArg Value.bool ?_, hS.bare⟩
            unfold opok
            simp_all
        · skip
          refine W_seq ?_
          refine W_region ?_
          refine O_bin rfl rfl rfl rfl rfl ?_
          refine O_assign rfl rfl rfl ?_
          refine O_end ?_
          refine W_if rfl (fun c48 => ?_) (fun c48 => ?_)
          · skip
            refine W_seq ?_
            refine W_region ?_
            refine O_fieldAddr rfl rfl rfl ?_
            refine O_load rfl rfl rfl rfl (hS.cell o.c3) ?_
            refine O_eql_str rfl rfl rfl rfl ?_
            refine O_know 52 (.bool (decide (o.nm = []))) rfl (congrArg Value.bool (strOf_isnil o.nm)) ?_
            refine O_move rfl rfl rfl ?_
            refine O_part 53 rfl (fun c53 => ?_) (fun c53 => ?_)
            · skip
              refine O_move rfl rfl rfl ?_
              first | refine O_pick_true rfl rfl rfl rfl ?_ | refine O_pick_false rfl rfl rfl rfl ?_
              refine O_move rfl rfl rfl ?_
              refine O_part 56 rfl (fun c56 => ?_) (fun c56 => ?_)
              · skip
                refine O_fieldAddr rfl rfl rfl ?_
                refine O_load rfl rfl rfl rfl (hS.cell o.c7) ?_
                refine O_bin rfl rfl rfl rfl rfl ?_
                first | refine O_pick_true rfl rfl rfl rfl ?_ | refine O_pick_false rfl rfl rfl rfl ?_
                refine O_move rfl rfl rfl ?_
                refine O_part 61 rfl (fun c61 => ?_) (fun c61 => ?_)
                · skip
                  refine O_fieldAddr rfl rfl rfl ?_
                  refine O_load rfl rfl rfl rfl (hS.cell o.c8) ?_
                  refine O_not rfl rfl rfl ?_
                  first | refine O_pick_true rfl rfl rfl rfl ?_ | refine O_pick_false rfl rfl rfl rfl ?_
                  refine O_assign rfl rfl rfl ?_
                  refine O_end ?_
                  refine W_ret ⟨_, rfl, ?_⟩
                  refine ⟨congrArg Value.bool ?_, hS.bare⟩
                  unfold opok
                  simp_all
                · skip
                  refine O_skip rfl rfl ?_
                  refine O_skip rfl rfl ?_
                  refine O_skip rfl rfl ?_
                  first | refine O_pick_true rfl rfl rfl rfl ?_ | refine O_pick_false rfl rfl rfl rfl ?_
                  refine O_assign rfl rfl rfl ?_
                  refine O_end ?_
                  refine W_ret ⟨_, rfl, ?_⟩
                  refine ⟨congrArg Value.bool ?_, hS.bare⟩
                  unfold opok
                  simp_all
              · skip
                refine O_skip rfl rfl ?_
                refine O_skip rfl rfl ?_
                refine O_skip rfl rfl ?_
                first | refine O_pick_true rfl rfl rfl rfl ?_ | refine O_pick_false rfl rfl rfl rfl ?_
                refine O_move rfl rfl rfl ?_
                refine O_know 61 (.bool false) rfl (congrArg Value.bool (rfl)) ?_
                refine O_skip rfl rfl ?_
                refine O_skip rfl rfl ?_
                refine O_skip rfl rfl ?_
                first | refine O_pick_true rfl rfl rfl rfl ?_ | refine O_pick_false rfl rfl rfl rfl ?_
                refine O_assign rfl rfl rfl ?_
                refine O_end ?_
                refine W_ret ⟨_, rfl, ?_⟩
                refine ⟨congrArg Value.bool ?_, hS.bare⟩
                unfold opok
                simp_all
            · skip
              refine O_skip rfl rfl ?_
              first | refine O_pick_true rfl rfl rfl rfl ?_ | refine O_pick_false rfl rfl rfl rfl ?_
              refine O_move rfl rfl rfl ?_
              refine O_know 56 (.bool false) rfl (congrArg Value.bool (rfl)) ?_
              refine O_skip rfl rfl ?_
              refine O_skip rfl rfl ?_
              refine O_skip rfl rfl ?_
              first | refine O_pick_true rfl rfl rfl rfl ?_ | refine O_pick_false rfl rfl rfl rfl ?_
              refine O_move rfl rfl rfl ?_
              refine O_know 61 (.bool false) rfl (congrArg Value.bool (rfl)) ?_
              refine O_skip rfl rfl ?_
              refine O_skip rfl rfl ?_
              refine O_skip rfl rfl ?_
              first | refine O_pick_true rfl rfl rfl rfl ?_ | refine O_pick_false rfl rfl rfl rfl ?_
              refine O_assign rfl rfl rfl ?_
              refine O_end ?_
              refine W_ret ⟨_, rfl, ?_⟩
              refine ⟨congrArg Value.bool ?_, hS.bare⟩
              unfold opok
              simp_all
          · skip
            refine W_skip ?_
            refine W_cut (fun σ w => sub σ [(1, .pointer (some ⟨b1, 0, none⟩)), (4, .bool (decide (o.nm = []) && prodok o.p o.e o.t))] ∧ St w0 [] [ocell b1 o] w) ?_ ?_
            · skip
              refine W_region ?_
              refine O_fieldAddr rfl rfl rfl ?_
              refine O_load rfl rfl rfl rfl (hS.cell o.c3) ?_
              refine O_eql_str rfl rfl rfl rfl ?_
              refine O_know 68 (.bool (decide (o.nm = []))) rfl (congrArg Value.bool (strOf_isnil o.nm)) ?_
              refine O_move rfl rfl rfl ?_
              refine O_part 69 rfl (fun c69 => ?_) (fun c69 => ?_)
              · skip
                refine O_fieldAddr rfl rfl rfl ?_
                refine O_load rfl rfl rfl rfl (hS.cell o.c4) ?_
                have hcall := in_spec (w0 := w) (n := o.p) (a := 0) (b := 7)
                refine O_call rfl rfl rfl hcall (fun r w ⟨hz, hk⟩ => ?_)
                subst hz
                have hS := hS.after0 hk
                first | refine O_pick_true rfl rfl rfl rfl ?_ | refine O_pick_false rfl rfl rfl rfl ?_
                refine O_move rfl rfl rfl ?_
                refine O_part 74 rfl (fun c74 => ?_) (fun c74 => ?_)
                · skip
                  refine O_fieldAddr rfl rfl rfl ?_
                  refine O_load rfl rfl rfl rfl (hS.cell o.c5) ?_
                  have hcall := in_spec (w0 := w) (n := o.e) (a := 0) (b := 100)
                  refine O_call rfl rfl rfl hcall (fun r w ⟨hz, hk⟩ => ?_)
                  subst hz
                  have hS := hS.after0 hk
                  first | refine O_pick_true rfl rfl rfl rfl ?_ | refine O_pick_false rfl rfl rfl rfl ?_
                  refine O_move rfl rfl rfl ?_
                  refine O_part 79 rfl (fun c79 => ?_) (fun c79 => ?_)
                  · skip
                    refine O_fieldAddr rfl rfl rfl ?_
                    refine O_load rfl rfl rfl rfl (hS.cell o.c6) ?_
                    have hcall := in_spec (w0 := w) (n := o.t) (a := 0) (b := 100)
                    refine O_call rfl rfl rfl hcall (fun r w ⟨hz, hk⟩ => ?_)
                    subst hz
                    have hS := hS.after0 hk
                    first | refine O_pick_true rfl rfl rfl rfl ?_ | refine O_pick_false rfl rfl rfl rfl ?_
                    refine O_assign rfl rfl rfl ?_
                    refine O_end ?_
                    refine ⟨⟨rfl, congrArg (fun b => some (Value.bool b)) ?_, trivial⟩, hS⟩
                    unfold prodok
                    simp_all
                  · skip
                    refine O_skip rfl rfl ?_
                    refine O_skip rfl rfl ?_
                    refine O_skip rfl rfl ?_
                    first | refine O_pick_true rfl rfl rfl rfl ?_ | refine O_pick_false rfl rfl rfl rfl ?_
                    refine O_assign rfl rfl rfl ?_
                    refine O_end ?_
                    refine ⟨⟨rfl, congrArg (fun b => some (Value.bool b)) ?_, trivial⟩, hS⟩
                    unfold prodok
                    simp_all
                · skip
                  refine O_skip rfl rfl ?_
                  refine O_skip rfl rfl ?_
                  refine O_skip rfl rfl ?_
                  first | refine O_pick_true rfl rfl rfl rfl ?_ | refine O_pick_false rfl rfl rfl rfl ?_
                  refine O_move rfl rfl rfl ?_
                  refine O_know 79 (.bool false) rfl (congrArg Value.bool (rfl)) ?_
                  refine O_skip rfl rfl ?_
                  refine O_skip rfl rfl ?_
                  refine O_skip rfl rfl ?_
                  first | refine O_pick_true rfl rfl rfl rfl ?_ | refine O_pick_false rfl rfl rfl rfl ?_
                  refine O_assign rfl rfl rfl ?_
                  refine O_end ?_
                  refine ⟨⟨rfl, congrArg (fun b => some (Value.bool b)) ?_, trivial⟩, hS⟩
                  unfold prodok
                  simp_all
              · skip
                refine O_skip rfl rfl ?_
                refine O_skip rfl rfl ?_
                refine O_skip rfl rfl ?_
                first | refine O_pick_true rfl rfl rfl rfl ?_ | refine O_pick_false rfl rfl rfl rfl ?_
                refine O_move rfl rfl rfl ?_
                refine O_know 74 (.bool false) rfl (congrArg Value.bool (rfl)) ?_
                refine O_skip rfl rfl ?_
                refine O_skip rfl rfl ?_
                refine O_skip rfl rfl ?_
                first | refine O_pick_true rfl rfl rfl rfl ?_ | refine O_pick_false rfl rfl rfl rfl ?_
                refine O_move rfl rfl rfl ?_
                refine O_know 79 (.bool false) rfl (congrArg Value.bool (rfl)) ?_
                refine O_skip rfl rfl ?_
                refine O_skip rfl rfl ?_
                refine O_skip rfl rfl ?_
                first | refine O_pick_true rfl rfl rfl rfl ?_ | refine O_pick_false rfl rfl rfl rfl ?_
                refine O_assign rfl rfl rfl ?_
                refine O_end ?_
                refine ⟨⟨rfl, congrArg (fun b => some (Value.bool b)) ?_, trivial⟩, hS⟩
                unfold prodok
                simp_all
            · skip
              rintro σ w ⟨hs, hS⟩
              refine W_weak [(1, .pointer (some ⟨b1, 0, none⟩)), (4, .bool (decide (o.nm = []) && prodok o.p o.e o.t))] hs ?_
              refine W_seq ?_
              refine W_seq ?_
              refine W_region ?_
              refine O_fieldAddr rfl rfl rfl ?_
              refine O_load rfl rfl rfl rfl (hS.cell o.c0) ?_
              refine O_end ?_
              refine W_block ?_
              refine W_seq ?_
              refine W_region ?_
              refine O_bin rfl rfl rfl rfl rfl ?_
              refine O_assign rfl rfl rfl ?_
              refine O_end ?_
              refine W_if rfl (fun c86 => ?_) (fun c86 => ?_)
              · skip
                refine W_seq ?_
                refine W_region ?_
                refine O_move rfl rfl rfl ?_
                refine O_move rfl rfl rfl ?_
                refine O_part 89 rfl (fun c89 => ?_) (fun c89 => ?_)
                · skip
                  refine O_fieldAddr rfl rfl rfl ?_
                  refine O_load rfl rfl rfl rfl (hS.cell o.c7) ?_
                  have hcall := in_spec (w0 := w) (n := o.q) (a := 0) (b := 3)
                  refine O_call rfl rfl rfl hcall (fun r w ⟨hz, hk⟩ => ?_)
                  subst hz
                  have hS := hS.after0 hk
                  first | refine O_pick_true rfl rfl rfl rfl ?_ | refine O_pick_false rfl rfl rfl rfl ?_
                  refine O_move rfl rfl rfl ?_
                  refine O_part 94 rfl (fun c94 => ?_) (fun c94 => ?_)
                  · skip
                    refine O_fieldAddr rfl rfl rfl ?_
                    refine O_load rfl rfl rfl rfl (hS.cell o.c8) ?_
                    refine O_not rfl rfl rfl ?_
                    first | refine O_pick_true rfl rfl rfl rfl ?_ | refine O_pick_false rfl rfl rfl rfl ?_
                    refine O_assign rfl rfl rfl ?_
                    refine O_end ?_
                    refine W_ret ⟨_, rfl, ?_⟩
                    refine ⟨congrArg Value.bool ?_, hS.bare⟩
                    unfold opok
                    simp_all
                  · skip
                    refine O_skip rfl rfl ?_
                    refine O_skip rfl rfl ?_
                    refine O_skip rfl rfl ?_
                    first | refine O_pick_true rfl rfl rfl rfl ?_ | refine O_pick_false rfl rfl rfl rfl ?_
                    refine O_assign rfl rfl rfl ?_
                    refine O_end ?_
                    refine W_ret ⟨_, rfl, ?_⟩
                    refine ⟨congrArg Value.bool ?_, hS.bare⟩
                    unfold opok
                    simp_all
                · skip
                  refine O_skip rfl rfl ?_
                  refine O_skip rfl rfl ?_
                  refine O_skip rfl rfl ?_
                  first | refine O_pick_true rfl rfl rfl rfl ?_ | refine O_pick_false rfl rfl rfl rfl ?_
                  refine O_move rfl rfl rfl ?_
                  refine O_know 94 (.bool false) rfl (congrArg Value.bool (rfl)) ?_
                  refine O_skip rfl rfl ?_
                  refine O_skip rfl rfl ?_
                  refine O_skip rfl rfl ?_
                  first | refine O_pick_true rfl rfl rfl rfl ?_ | refine O_pick_false rfl rfl rfl rfl ?_
                  refine O_assign rfl rfl rfl ?_
                  refine O_end ?_
                  refine W_ret ⟨_, rfl, ?_⟩
                  refine ⟨congrArg Value.bool ?_, hS.bare⟩
                  unfold opok
                  simp_all
              · skip
                refine W_seq ?_
                refine W_region ?_
                refine O_bin rfl rfl rfl rfl rfl ?_
                refine O_assign rfl rfl rfl ?_
                refine O_end ?_
                refine W_if rfl (fun c99 => ?_) (fun c99 => ?_)
                · skip
                  refine W_seq ?_
                  refine W_region ?_
                  refine O_move rfl rfl rfl ?_
                  refine O_move rfl rfl rfl ?_
                  refine O_part 102 rfl (fun c102 => ?_) (fun c102 => ?_)
                  · skip
                    refine O_fieldAddr rfl rfl rfl ?_
                    refine O_load rfl rfl rfl rfl (hS.cell o.c7) ?_
                    refine O_bin rfl rfl rfl rfl rfl ?_
                    first | refine O_pick_true rfl rfl rfl rfl ?_ | refine O_pick_false rfl rfl rfl rfl ?_
                    refine O_assign rfl rfl rfl ?_
                    refine O_end ?_
                    refine W_ret ⟨_, rfl, ?_⟩
                    refine ⟨congrArg Value.bool ?_, hS.bare⟩
                    unfold opok
                    simp_all
                  · skip
                    refine O_skip rfl rfl ?_
                    refine O_skip rfl rfl ?_
                    refine O_skip rfl rfl ?_
                    first | refine O_pick_true rfl rfl rfl rfl ?_ | refine O_pick_false rfl rfl rfl rfl ?_
                    refine O_assign rfl rfl rfl ?_
                    refine O_end ?_
                    refine W_ret ⟨_, rfl, ?_⟩
                    refine ⟨congrArg Value.bool ?_, hS.bare⟩
                    unfold opok
                    simp_all
                · skip
                  refine W_skip ?_
                  refine W_seq ?_
                  refine W_region ?_
                  refine O_assign rfl rfl rfl ?_
                  refine O_end ?_
                  refine W_ret ⟨_, rfl, ?_⟩
                  refine ⟨congrArg Value.bool ?_, hS.bare⟩
                  unfold opok
                  simp_all

end Go.Proofs.YtaglgnjamihdnaaDoor.R
