/- What the laws do besides with bytes: they are spoilt, laid with room, looked at. -/
import Derived.Test.YtaglgnjamihdnaaDoorOf
import Derived.Test.YtaglgnjamihdnaaDoorOc
namespace Go.Proofs.YtaglgnjamihdnaaDoor.R
open Go Go.RowKit Go.Proofs
set_option linter.unusedVariables false
set_option linter.unusedSimpArgs false
set_option maxRecDepth 20000

theorem rnum_left (s : RSt) (hl : s.left.length ≤ 1000000000) : (rnum s).2.left.length ≤ 1000000000 := by
  have key : ∀ (l : List UInt8) (i u : Nat) (x : Nat × List UInt8), decGo i u l = some x → x.2.length ≤ l.length := by
    intro l
    induction l with
    | nil => intro i u x h; simp [decGo] at h
    | cons c r ih =>
      intro i u x h
      rw [decGo_cons] at h
      split at h
      · cases h
      · split at h
        · split at h
          · cases h
          · cases h; simp
        · have := ih _ _ _ h; simp only [List.length_cons]; omega
  cases s with
  | none => exact hl
  | some l =>
    unfold rnum
    dsimp only
    cases hd : dec l with
    | none => simp [RSt.left]
    | some x =>
      obtain ⟨u, r⟩ := x
      have := key l 0 0 (u, r) hd
      dsimp only at this
      simp only [RSt.left, Option.getD_some] at hl ⊢
      omega

theorem rbytes_spec {w0 : World} {r : Nat} {v0 : Value} {b0 : Bool} {G : List Chunk} {s : RSt} (hS : Own [rcell r v0 b0, G] w0) (hV : RView v0 b0 s G) (hl : s.left.length ≤ 1000000000) :
    Calls Tryd.prog 24 #[.pointer (some ⟨r, 0, none⟩)] w0 (Ret fun x w => ∃ v b G', BRow x (rbytes s).1 G' ∧ RView v b (rbytes s).2 G ∧ St w0 (idsOf [rcell r v0 b0, G]) [G', rcell r v b, G] w) := by
  refine calls_enter (l := [.pointer (some ⟨r, 0, none⟩)]) Tryd.func24 rfl Tryd.ntmps24 Tryd.results24 (Nat.le_of_ble_eq_true rfl) ?_
  refine W_seq ?_
  refine W_region ?_
  refine O_assign rfl rfl rfl ?_
  refine O_end ?_
  refine W_seq ?_
  refine W_region ?_
  refine O_move rfl rfl rfl ?_
  refine O_move rfl rfl rfl ?_
  refine O_call rfl rfl rfl (rnum_spec hS.own2 hV hl) (fun x w ⟨hx, v, b, hV1, hk⟩ => ?_)
  subst hx
  have hS := hS.after2 hk
  refine O_call rfl rfl rfl (rraw_spec hS.own2 hV1 (rnum_left s hl)) (fun x w ⟨v2, b2, G', hG, hV2, hk⟩ => ?_)
  have hS := hS.after2 hk
  refine O_assign rfl rfl rfl ?_
  refine O_end ?_
  refine W_ret ⟨_, rfl, ?_⟩
  exact ⟨v2, b2, G', hG, hV2, hS⟩

/-- Are rows more than is looked at? -/
def heavyGo (n : Nat) : List (List UInt8) → Bool
  | [] => false
  | x :: r => if x.length > 4000 then true else if n + 3 + x.length > 4000 then true else heavyGo (n + 3 + x.length) r
def heavy (rows : List (List UInt8)) : Bool := heavyGo 0 rows
theorem heavyGo_cons (n : Nat) (x : List UInt8) (r : List (List UInt8)) : heavyGo n (x :: r) = if x.length > 4000 then true else if n + 3 + x.length > 4000 then true else heavyGo (n + 3 + x.length) r := rfl
theorem heavyGo_wt : ∀ (rows : List (List UInt8)) (n : Nat), heavyGo n rows = false → n ≤ 4000 → wt rows + 7 * n ≤ 4 * 4000 * 7 ∧ ∀ x ∈ rows, x.length ≤ 4000 := by
  intro rows
  induction rows with
  | nil => intro n _ hn; simp [wt]; omega
  | cons x r ih =>
    intro n h hn
    rw [heavyGo_cons] at h
    split at h
    · cases h
    · split at h
      · cases h
      · obtain ⟨h1, h2⟩ := ih _ h (by omega)
        rw [wt_cons]
        refine ⟨by omega, fun y hy => ?_⟩
        rcases List.mem_cons.1 hy with rfl | hy
        · omega
        · exact h2 y hy
theorem heavy_wt {rows : List (List UInt8)} (h : heavy rows = false) : wt rows ≤ 112000 := by have := heavyGo_wt rows 0 h (by omega); omega

end Go.Proofs.YtaglgnjamihdnaaDoor.R
