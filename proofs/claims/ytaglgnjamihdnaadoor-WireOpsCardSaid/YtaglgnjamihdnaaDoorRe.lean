/- A region that draws its order: what only reads may be done first, as long as all that is done besides keeps to a class of worlds. -/
import Derived.Test.YtaglgnjamihdnaaDoorRd
namespace Go.Proofs.YtaglgnjamihdnaaDoor.R
open Go Go.RowKit

section
variable {P : Program} {ops : Array Oper} {C : World → Prop} {Q : Exit → Act → World → Prop}

/-- Whatever order is picked, all worlds on the way being of the class. -/
def AnyC (P : Program) (ops : Array Oper) (C : World → Prop) (Q : Exit → Act → World → Prop) : Nat → Array Bool → Act → World → Prop
  | 0, l, a, w => Region.ready .any ops l = [] ∧ Q .normal a w
  | k + 1, l, a, w => (Region.ready .any ops l = [] → Q .normal a w) ∧
      ∀ i ∈ Region.ready .any ops l, wpOp P ops Q i (fun a w => C w ∧ AnyC P ops C Q k (l.setIfInBounds i true) a w) a w

theorem AnyC.any : ∀ (k : Nat) (l : Array Bool) (a : Act) (w : World), AnyC P ops C Q k l a w → wpAny P .any ops Q k l a w
  | 0, _, _, _, h => h
  | k + 1, _, _, _, h => ⟨h.1, fun i hi => wpOp_mono (fun a w h => AnyC.any k _ a w h.2) (h.2 i hi)⟩

/-- In every world of the class this operation gives v and leaves the world alone. -/
def Gives (P : Program) (ops : Array Oper) (C : World → Prop) (o : Oper) (v : Value) (a : Act) : Prop :=
  if Region.wanted o (yielded ops a.tmps) = true then ∀ w, C w → (execOp a.eval o).run P w = .ok (.value v) w else v = undef

theorem Gives.op {i : Nat} {o : Oper} {v : Value} {a : Act} {w : World} {K : Act → World → Prop} (hi : ops[i]? = some o) (h : Gives P ops C o v a) (hw : C w) (k : K (a.put o.dst v) w) : wpOp P ops Q i K a w := by
  unfold Gives at h
  unfold wpOp
  rw [hi]
  dsimp only
  by_cases hwd : Region.wanted o (yielded ops a.tmps) = true
  · rw [if_pos hwd] at h ⊢
    refine .inl ?_
    unfold Oper.wp
    rw [h w hw]
    exact k
  · rw [if_neg hwd] at h ⊢
    rw [← h]
    exact k

theorem Gives.keep {o : Oper} {v : Value} {a a' : Act} (h : Gives P ops C o v a) (he : execOp a'.eval o = execOp a.eval o) (hw : Region.wanted o (yielded ops a'.tmps) = Region.wanted o (yielded ops a.tmps)) : Gives P ops C o v a' := by
  unfold Gives at *
  rw [he, hw]
  exact h

/-- An operation apart from another one, which gives v: it does the same ahead of it. -/
theorem op_ahead {j : Nat} {x y : Oper} {v : Value} {a : Act} {w : World} {K : Act → World → Prop} (hy : ops[j]? = some y) (hap : x.apart ops y = true) (sx : ∀ cs b, x.op ≠ .select cs b) (sy : ∀ cs b, y.op ≠ .select cs b)
    (hp : ∀ c a w, Q (.panic c) (a.put x.dst v) w → Q (.panic c) a w) (hg : Gives P ops C x v a) (h : wpOp P ops Q j K (a.put x.dst v) w) :
    wpOp P ops Q j (fun a w => Gives P ops C x v a ∧ K (a.put x.dst v) w) a w := by
  obtain ⟨e1, e2, e3⟩ := Oper.apart_spec hap
  have still : ∀ b : Act, Gives P ops C x v b → ∀ u, Gives P ops C x v (b.put y.dst u) := fun b hb u => hb.keep (execOp_put x sx b y.dst u e3) (wanted_put x b y.dst u e3)
  have swap : ∀ (b : Act) (u : Value), K ((b.put x.dst v).put y.dst u) = K ((b.put y.dst u).put x.dst v) := fun b u => by rw [Act.put_comm b v u e2]
  have same : execOp (a.put x.dst v).eval y = execOp a.eval y := execOp_put y sy a x.dst v e1
  unfold wpOp at h ⊢
  rw [hy] at h ⊢
  dsimp only at h ⊢
  rw [wanted_put y a x.dst v e1] at h
  by_cases hwd : Region.wanted y (yielded ops a.tmps) = true
  · rw [if_pos hwd] at h ⊢
    rcases h with h | ⟨h, hl⟩
    · left
      unfold Oper.wp at h ⊢
      rw [same] at h
      cases hr : (execOp a.eval y).run P w with
      | ok nx w1 =>
        rw [hr] at h
        cases nx <;> dsimp only [Oper.upon] at h ⊢ <;> first
          | exact h.elim
          | exact ⟨still a hg _, by rw [← swap]; exact h⟩
          | (refine Calls.mono h fun e w2 he => ?_
             cases e with
             | returned u => exact ⟨still a hg u, by rw [← swap]; exact he⟩
             | panicked c => exact hp _ _ _ he
             | outgrown => exact he)
          | exact Rows.mono h fun u w2 he => ⟨still a hg u, by rw [← swap]; exact he⟩
          | (refine ⟨Gives.keep hg (execOp_put x sx { a with defers := _ } y.dst undef e3) (wanted_put x { a with defers := _ } y.dst undef e3), ?_⟩
             rw [← swap, ← Act.put_defers]
             exact h)
      | halt x1 w1 =>
        rw [hr] at h
        cases x1 <;> dsimp only [Oper.upon] at h ⊢ <;> first
          | exact h.elim
          | exact hp _ _ _ h
    · right
      refine ⟨?_, hl⟩
      unfold Oper.asks at h ⊢
      rw [same] at h
      exact h
  · rw [if_neg hwd] at h ⊢
    exact ⟨still a hg _, by rw [← swap]; exact h⟩

theorem AnyC.first {i : Nat} {x : Oper} {v : Value} (hi : ops[i]? = some x) (hs : ∀ (j : Nat) (o : Oper) cs b, ops[j]? = some o → o.op ≠ .select cs b) (hp : ∀ c a w, Q (.panic c) (a.put x.dst v) w → Q (.panic c) a w) :
    ∀ (k : Nat) (l : Array Bool) (a : Act) (w : World), C w →
      (∀ j y, ops[j]? = some y → j ≠ i → l.getD j true = false → (∀ e ∈ y.after, Region.binds .any e = true → e.on ≠ i) → x.apart ops y = true) →
      i ∈ Region.ready .any ops l → Gives P ops C x v a → AnyC P ops C Q k (l.setIfInBounds i true) (a.put x.dst v) w → AnyC P ops C Q (k + 1) l a w := by
  intro k
  induction k with
  | zero =>
    intro l a w hC _ hr hg h
    refine ⟨fun h0 => absurd (h0 ▸ hr) (by simp), fun j hj => ?_⟩
    rcases Decidable.em (j = i) with rfl | hne
    · exact hg.op hi hC ⟨hC, h⟩
    · have hj' := ready_mono hj hne
      rw [h.1] at hj'
      simp at hj'
  | succ k ih =>
    intro l a w hC hf hr hg h
    refine ⟨fun h0 => absurd (h0 ▸ hr) (by simp), fun j hj => ?_⟩
    rcases Decidable.em (j = i) with rfl | hne
    · exact hg.op hi hC ⟨hC, h⟩
    · obtain ⟨hun, y, hy, hall⟩ := mem_ready.1 hj
      have hi0 := (mem_ready.1 hr).1
      have hno : ∀ e ∈ y.after, Region.binds .any e = true → e.on ≠ i := fun e he hb hei => by
        have h1 := hall e he hb
        subst hei
        rw [Array.getD_eq_getD_getElem?] at h1 hi0
        cases hq : l[e.on]? with
        | none => rw [hq] at h1; exact absurd h1 (by decide)
        | some b => rw [hq] at h1 hi0; exact absurd (h1.symm.trans hi0) (by decide)
      have h2 := op_ahead hy (hf j y hy hne hun hno) (fun cs b => hs i x cs b hi) (fun cs b => hs j y cs b hy) hp hg (h.2 j (ready_mono hj hne))
      refine wpOp_mono (fun a' w' h3 => ⟨h3.2.1, ih (l.setIfInBounds j true) a' w' h3.2.1 ?_ (ready_mono hr (Ne.symm hne)) h3.1 ?_⟩) h2
      · intro m z hz hmi hmu hmo
        refine hf m z hz hmi ?_ hmo
        rcases Decidable.em (j = m) with rfl | hjm
        · exact hun
        · rw [getD_set_ne true hjm] at hmu; exact hmu
      · rw [Array.setIfInBounds_comm _ _ hne]
        exact h3.2.2

end

/-! ### by the slots -/

def OA (P : Program) (n : Nat) (ops : Array Oper) (C : World → Prop) (k : Nat) (l : Array Bool) (σ : Env) (w : World) (Q : Post) : Prop :=
  ∀ a, Ev σ n a → AnyC P ops C (lift n Q) k l a w

section
variable {P : Program} {n : Nat} {σ : Env} {w : World} {Q : Post} {ops : Array Oper} {C : World → Prop} {k : Nat} {l : Array Bool}

/-- Such a region; the post asks nothing of a frame where it panics (it never does here). -/
abbrev NoPanic_ (Q : Post) : Post := fun e σ w => match e with
  | .panic _ => False
  | e => Q e σ w

theorem W_drawn [hm : Mixed P] {id : Nat} {ops : Array Oper} (C : World → Prop) (h : OA P n ops C ops.size (Array.replicate ops.size false) σ w.drew (NoPanic_ Q)) : W P n (.region id ops true) σ w Q := fun a ha => by
  refine wp_mono (wp_region_any (Q := lift n (NoPanic_ Q)) hm.h ?_) fun e a w ⟨τ, ht, hq⟩ => ⟨τ, ht, ?_⟩
  · exact AnyC.any _ _ _ _ (h a ha)
  · cases e <;> first | exact hq | exact False.elim hq

theorem OA_take (i : Nat) {o : Oper} {v : Value} (hi : ops[i]? = some o) (hs : Region.noSelect ops = true) (hf : Region.free .any ops l i = true) (hr : (Region.ready .any ops l).contains i = true)
    (hg : guardIs ops σ o.guard = some true) (hd : dstOk n o.dst = true) (hC : C w)
    (hrun : ∀ w, C w → ∀ a, Ev σ n a → (execOp a.eval o).run P w = .ok (.value v) w) (h : OA P n ops C k (l.setIfInBounds i true) (upd σ o.dst v) w (NoPanic_ Q)) : OA P n ops C (k + 1) l σ w (NoPanic_ Q) := fun a ha => by
  refine AnyC.first (v := v) hi (Region.noSelect_spec hs) (fun c a w hq => ?_) k l a w hC (Region.free_spec hi hf) (by simpa using hr) ?_ (h _ (ha.upd hd v))
  · obtain ⟨τ, _, hq⟩ := hq; exact hq.elim
  · unfold Gives
    rw [if_pos (guard_wanted ha hg)]
    exact fun w hw => hrun w hw a ha

theorem OA_pass (i : Nat) {o : Oper} (hi : ops[i]? = some o) (hs : Region.noSelect ops = true) (hf : Region.free .any ops l i = true) (hr : (Region.ready .any ops l).contains i = true)
    (hg : guardIs ops σ o.guard = some false) (hd : dstOk n o.dst = true) (hC : C w) (h : OA P n ops C k (l.setIfInBounds i true) (upd σ o.dst undef) w (NoPanic_ Q)) : OA P n ops C (k + 1) l σ w (NoPanic_ Q) := fun a ha => by
  refine AnyC.first (v := undef) hi (Region.noSelect_spec hs) (fun c a w hq => ?_) k l a w hC (Region.free_spec hi hf) (by simpa using hr) ?_ (h _ (ha.upd hd undef))
  · obtain ⟨τ, _, hq⟩ := hq; exact hq.elim
  · unfold Gives
    rw [if_neg (by rw [guard_wanted ha hg]; decide)]

/-- One operation by the rules of an ordinary region. -/
theorem wpOp_ofList {i : Nat} {o : Oper} {a : Act} {K : Act → World → Prop} {Q : Exit → Act → World → Prop} (hi : ops[i]? = some o)
    (h : wpList P ops (fun e a w => match e with | .normal => K a w | e => Q e a w) [o] a w) : wpOp P ops Q i K a w := by
  unfold wpOp
  rw [hi]
  dsimp only
  unfold wpList at h
  split
  · rename_i hw
    rw [if_pos hw] at h
    rcases h with h | ⟨h, a0, w0, hl⟩
    · left
      unfold Oper.wp at h ⊢
      cases hr : (execOp a.eval o).run P w with
      | ok nx w1 => rw [hr] at h; cases nx <;> first | exact h | exact Calls.mono h fun e w2 he => by cases e <;> exact he
      | halt x1 w1 => rw [hr] at h; cases x1 <;> exact h
    · exact .inr ⟨h, a0, w0, hl⟩
  · rename_i hw
    rw [if_neg hw] at h
    exact h

theorem wpList_mono' {P : Program} {ops : Array Oper} {Q Q' : Exit → Act → World → Prop} {o : Oper} (a : Act) (w : World) (hq : ∀ e a w, Q e a w → Q' e a w) (h : wpList P ops Q [o] a w) : wpList P ops Q' [o] a w := by
  unfold wpList at h ⊢
  split
  · rename_i hw
    rw [if_pos hw] at h
    rcases h with h | ⟨h, a0, w0, hl⟩
    · left
      unfold Oper.wp at h ⊢
      cases hr : (execOp a.eval o).run P w with
      | ok nx w1 =>
        rw [hr] at h
        cases nx <;> first
          | exact hq _ _ _ h
          | exact h
          | exact Calls.mono h fun e w2 he => by
              cases e <;> first | exact hq _ _ _ he | exact (let ⟨a, w, h⟩ := he; ⟨a, w, hq _ _ _ h⟩)
          | exact Rows.mono h fun u w2 he => hq _ _ _ he
      | halt x1 w1 => rw [hr] at h; cases x1 <;> first | exact h | exact hq _ _ _ h
    · exact .inr ⟨h, a0, w0, hq _ _ _ hl⟩
  · rename_i hw
    rw [if_neg hw] at h
    exact hq _ _ _ h

/-- The one that may come up. -/
theorem OA_one (i : Nat) {o : Oper} (hi : ops[i]? = some o) (hr : Region.ready .any ops l = [i])
    (h : O P n ops [o] σ w (fun e σ w => match e with | .normal => C w ∧ OA P n ops C k (l.setIfInBounds i true) σ w Q | _ => False)) : OA P n ops C (k + 1) l σ w Q := fun a ha => by
  refine ⟨fun h0 => absurd (hr ▸ h0) (by simp), fun j hj => ?_⟩
  rw [hr] at hj
  obtain rfl := List.mem_singleton.1 hj
  exact wpOp_ofList hi (wpList_mono' _ _ (fun e a w ⟨τ, ht, hq⟩ => by cases e <;> first | exact ⟨hq.1, hq.2 _ ht⟩ | exact False.elim hq) (h a ha))

theorem OA_end (hr : Region.ready .any ops l = []) (h : Q .normal σ w) : OA P n ops C k l σ w Q := fun a ha => by
  cases k with
  | zero => exact ⟨hr, σ, ha, h⟩
  | succ k => exact ⟨fun _ => ⟨σ, ha, h⟩, by rw [hr]; simp⟩

end
end Go.Proofs.YtaglgnjamihdnaaDoor.R
