/- A mark's bytes of which one is turned. -/
import Derived.Test.YtaglgnjamihdnaaDoorWa
namespace Go.Proofs.YtaglgnjamihdnaaDoor.R
open Go Go.RowKit Go.Proofs
set_option linter.unusedVariables false
set_option linter.unusedSimpArgs false
set_option maxRecDepth 20000

theorem rnum_left' (s : RSt) (hl : s.left.length ≤ 1000000000) : (rnum s).2.left.length ≤ 1000000000 := by
  have key : ∀ (l : List UInt8) (i u : Nat) (x : Nat × List UInt8), decGo i u l = some x → x.2.length ≤ l.length := by
    intro l
    induction l with
    | nil => intro i u x h; simp [decGo] at h
    | cons c r ih =>
      intro i u x h
      rw [decGo_cons] at h
      split at h
      · cases h
      · split at h
        · split at h
          · cases h
          · cases h; simp
        · have := ih _ _ _ h; simp only [List.length_cons]; omega
  cases s with
  | none => exact hl
  | some l =>
    unfold rnum
    dsimp only
    cases hd : dec l with
    | none => simp [RSt.left]
    | some x =>
      obtain ⟨u, r⟩ := x
      have := key l 0 0 (u, r) hd
      dsimp only at this
      simp only [RSt.left, Option.getD_some] at hl ⊢
      omega
theorem enc_lt {u : Nat} (h : u < 128) : enc u = [UInt8.ofNat u] := enc_small h
theorem encs_known : encs [3, 2, 1, 2, 3] = [3, 2, 1, 2, 3] := by
  have e1 : clampN 3 = 3 := by decide
  have e2 : clampN 2 = 2 := by decide
  have e3 : clampN 1 = 1 := by decide
  simp only [encs, List.flatMap_cons, List.flatMap_nil, e1, e2, e3, enc_small (show 3 < 128 by decide), enc_small (show 2 < 128 by decide), enc_small (show 1 < 128 by decide)]
  rfl
/-- What is read as a number was laid as it. -/
theorem decGo_enc_back : ∀ (l : List UInt8) (i a v : Nat) (r : List UInt8), decGo i a l = some (v, r) → ∃ x, v = a + x * 128 ^ i ∧ l = enc x ++ r ∧ (0 < i → 0 < x) := by
  intro l
  induction l with
  | nil => intro i a v r h; cases h
  | cons c l ih =>
    intro i a v r h
    rw [decGo_cons] at h
    split at h
    · cases h
    · rename_i hc
      split at h
      · rename_i hs
        split at h
        · cases h
        · cases h
          refine ⟨c.toNat, by rw [Nat.mod_eq_of_lt hs], ?_, fun hi => ?_⟩
          · rw [enc_small hs, UInt8.ofNat_toNat]; rfl
          · rcases Nat.eq_zero_or_pos c.toNat with h0 | h0
            · exact absurd (.inr ⟨hi, byte_eq (x := c) (y := 0) (by rw [h0]; rfl)⟩) hc
            · exact h0
      · rename_i hs
        obtain ⟨x, h1, h2, h3⟩ := ih _ _ _ _ h
        have hx := h3 (Nat.succ_pos _)
        have hm : c.toNat % 128 + 128 = c.toNat := by have := c.toNat_lt; omega
        refine ⟨x * 128 + c.toNat % 128, ?_, ?_, fun _ => by omega⟩
        · rw [h1, Nat.pow_succ, Nat.add_mul]
          have : x * (128 ^ i * 128) = x * 128 * 128 ^ i := by rw [Nat.mul_assoc, Nat.mul_comm 128]
          omega
        · have e1 : (x * 128 + c.toNat % 128) % 128 = c.toNat % 128 := by omega
          have e2 : (x * 128 + c.toNat % 128) / 128 = x := by omega
          rw [enc_big (by omega), e1, e2, hm, UInt8.ofNat_toNat, h2]
          rfl
theorem dec_bound : ∀ (l : List UInt8) (i a v : Nat) (r : List UInt8), decGo i a l = some (v, r) → v ≤ 4611686018427387904 := by
  intro l
  induction l with
  | nil => intro i a v r h; cases h
  | cons c l ih =>
    intro i a v r h
    rw [decGo_cons] at h
    split at h
    · cases h
    · split at h
      · split at h
        · cases h
        · cases h; omega
      · exact ih _ _ _ _ h
/-- A number that came: the bytes ahead were its own. -/
theorem rnum_back {s : RSt} {l : List UInt8} (h : (rnum s).2 = some l) : s = some (enc (rnum s).1 ++ l) ∧ (rnum s).1 ≤ 4611686018427387904 := by
  cases s with
  | none => cases h
  | some bs =>
    unfold rnum at h ⊢
    dsimp only at h ⊢
    cases hd : dec bs with
    | none => rw [hd] at h; cases h
    | some x =>
      obtain ⟨u, r⟩ := x
      rw [hd] at h
      cases h
      obtain ⟨x, h1, h2, _⟩ := decGo_enc_back bs 0 0 u l hd
      have : x = u := by simpa using h1.symm
      subst this
      exact ⟨by show some bs = some (enc x ++ l); rw [h2], dec_bound bs 0 0 _ l hd⟩
theorem clampN_of {n : Nat} (h : n ≤ 4611686018427387904) : clampN (n : Int) = n := by unfold clampN; omega
/-- What a Reader holds behind the number of a kind. -/
def begunSt (bs : List UInt8) (k : Int) : RSt := if ((rnum (some bs)).1 : Int) = k then (rnum (some bs)).2 else none
/-- What a Reader holds behind n numbers. -/
def rsq (s : RSt) : Nat → RSt
  | 0 => s
  | n + 1 => (rnum (rsq s n)).2
theorem rsq_left (s : RSt) (hl : s.left.length ≤ 1000000000) : ∀ n, (rsq s n).left.length ≤ 1000000000
  | 0 => hl
  | n + 1 => rnum_left' _ (rsq_left s hl n)
/-- Bytes that are a mark are that mark's bytes. -/
theorem begun_back {bs : List UInt8} {l : List UInt8} (h : begunSt bs 3 = some l) : bs = enc (clampN 3) ++ l := by
  unfold begunSt at h
  split at h
  · rename_i h1
    obtain ⟨h2, h3⟩ := rnum_back h
    have h4 : (rnum (some bs)).1 = 3 := by omega
    rw [h4] at h2
    cases h2
    rfl
  · cases h
theorem four_back {bs : List UInt8} (h : rsq (begunSt bs 3) 4 = some []) : bs = encs [3, ((rnum (begunSt bs 3)).1 : Nat), ((rnum (rsq (begunSt bs 3) 1)).1 : Nat), ((rnum (rsq (begunSt bs 3) 2)).1 : Nat), ((rnum (rsq (begunSt bs 3) 3)).1 : Nat)] := by
  obtain ⟨h3, b3⟩ := rnum_back (s := rsq (begunSt bs 3) 3) h
  obtain ⟨h2, b2⟩ := rnum_back (s := rsq (begunSt bs 3) 2) h3
  obtain ⟨h1, b1⟩ := rnum_back (s := rsq (begunSt bs 3) 1) h2
  obtain ⟨h0, b0⟩ := rnum_back (s := begunSt bs 3) h1
  have hb := begun_back h0
  simp only [encs, List.flatMap_cons, List.flatMap_nil, clampN_of b0, clampN_of b1, clampN_of b2, clampN_of b3]
  exact hb

theorem known_spec {w0 : World} : Calls Tryd.prog 8 #[] w0 (Ret fun r w => r = .bool true ∧ St w0 [] [] w) := by
  have hS : Own [] w0 := St.start w0
  refine calls_enter (l := []) Tryd.func8 rfl Tryd.ntmps8 Tryd.results8 (Nat.le_of_ble_eq_true rfl) ?_
  refine W_seq ?_
  refine W_region ?_
  refine O_assign rfl rfl rfl ?_
  refine O_end ?_
  refine W_seq ?_
  refine W_region ?_
  refine O_build (c := #[iv 2, iv 1, iv 2, iv 3]) rfl rfl rfl (fun _ => by kernel_rfl) ?_
  have hcall := encodeMark_spec (w0 := w0) (k := 2) (p := 1) (e := 2) (t := 3)
  rw [show markok 2 1 2 3 = true from by decide, if_pos rfl, if_pos rfl, encs_known] at hcall
  refine O_call rfl rfl rfl hcall (fun r w ⟨v, G, hz, hG, hk⟩ => ?_)
  subst hz
  have hS := hS.after0 hk
  obtain ⟨A1, c1, rfl, _⟩ := hG.form
  refine O_move rfl rfl rfl ?_
  refine O_extract rfl rfl rfl rfl ?_
  refine O_extract rfl rfl rfl rfl ?_
  refine O_assign rfl rfl rfl ?_
  refine O_assign rfl rfl rfl ?_
  refine O_end ?_
  refine W_seq ?_
  refine W_region ?_
  refine O_move rfl rfl rfl ?_
  refine O_bin rfl rfl rfl rfl rfl ?_
  refine O_move rfl rfl rfl ?_
  refine O_know 10 (.bool true) rfl (congrArg Value.bool (rfl)) ?_
  refine O_move rfl rfl rfl ?_
  obtain ⟨_, _, hq, _, _, hn1, _⟩ := hG.rd hS
  cases hq
  refine O_str (bs := [3, 2, 1, 2, 3]) rfl rfl rfl hn1 ?_
  refine O_eql_str rfl rfl rfl rfl ?_
  refine O_know 13 (.bool true) rfl (congrArg Value.bool ((strOf_eq [3, 2, 1, 2, 3] [3, 2, 1, 2, 3]).trans (by simp))) ?_
  first | refine O_pick_true rfl rfl rfl rfl ?_ | refine O_pick_false rfl rfl rfl rfl ?_
  refine O_assign rfl rfl rfl ?_
  refine O_end ?_
  refine W_ret ⟨_, rfl, ?_⟩
  exact ⟨rfl, hS.bare⟩

theorem begun_spec {w0 : World} {A : Option Addr} {bs : List UInt8} {c : Nat} {k : Int} (hr : Rd w0 A (bvs bs)) (hb : bs.length ≤ 1000000000) :
    Calls Tryd.prog 22 #[.slice A bs.length c, .int .i64 k] w0 (Ret fun x w => ∃ r v b G, x = .pointer (some ⟨r, 0, none⟩) ∧ RView v b (begunSt bs k) G ∧ St w0 [] [rcell r v b, G] w) := by
  have hS : Own [] w0 := St.start w0
  refine calls_enter (l := [.slice A bs.length c, .int .i64 k]) Tryd.func22 rfl Tryd.ntmps22 Tryd.results22 (Nat.le_of_ble_eq_true rfl) ?_
  refine W_seq ?_
  refine W_region ?_
  refine O_assign rfl rfl rfl ?_
  refine O_end ?_
  refine W_seq ?_
  refine W_region ?_
  refine O_move rfl rfl rfl ?_
  have hcall := newReader_spec (c := c) hr hb
  refine O_call rfl rfl rfl hcall (fun r w ⟨r, v, G, hz, hV, hk⟩ => ?_)
  subst hz
  have hS := hS.after0 hk
  refine O_assign rfl rfl rfl ?_
  refine O_end ?_
  refine W_seq ?_
  refine W_seq ?_
  refine W_region ?_
  refine O_move rfl rfl rfl ?_
  have hcall := rnum_spec hS.own2 hV (show (RSt.left (some bs)).length ≤ 1000000000 from hb)
  refine O_call rfl rfl rfl hcall (fun x w ⟨hz, v1, b1, hV1, hk⟩ => ?_)
  subst hz
  have hS := hS.after2 hk
  refine O_move rfl rfl rfl ?_
  refine O_bin rfl rfl rfl rfl rfl ?_
  refine O_end ?_
  refine W_if rfl (fun c11 => ?_) (fun c11 => ?_)
  · skip
    refine W_region ?_
    refine O_move rfl rfl rfl ?_
    have hcall := bad_spec hS.own2
    refine O_call rfl rfl rfl hcall (fun x w ⟨hz, hk⟩ => ?_)
    subst hz
    have hS := hS.after2 hk
    refine O_end ?_
    refine W_seq ?_
    refine W_region ?_
    refine O_move rfl rfl rfl ?_
    refine O_assign rfl rfl rfl ?_
    refine O_end ?_
    refine W_ret ⟨_, rfl, ?_⟩
    have hne : ¬ ((rnum (some bs)).1 : Int) = k := by simpa using c11
    refine ⟨_, _, _, G, rfl, ?_, hS⟩
    unfold begunSt
    rw [if_neg hne]
    exact RView.bad G
  · skip
    refine W_skip ?_
    refine W_seq ?_
    refine W_region ?_
    refine O_move rfl rfl rfl ?_
    refine O_assign rfl rfl rfl ?_
    refine O_end ?_
    refine W_ret ⟨_, rfl, ?_⟩
    have he : ((rnum (some bs)).1 : Int) = k := by simpa using c11
    refine ⟨_, _, _, G, rfl, ?_, hS⟩
    unfold begunSt
    rw [if_pos he]
    exact hV1

theorem decodeMark_spec {w0 : World} {A : Option Addr} {bs : List UInt8} {c : Nat} (hr : Rd w0 A (bvs bs)) (hb : bs.length ≤ 1000000000) :
    Calls Tryd.prog 14 #[.slice A bs.length c] w0 (Ret fun x w => (x = .tuple #[.agg #[iv 0, iv 0, iv 0, iv 0], .int .i64 2] ∨ (rsq (begunSt bs 3) 4 = some [] ∧ x = .tuple #[.agg #[.int .i64 ((rnum (begunSt bs 3)).1 : Nat), .int .i64 ((rnum (rsq (begunSt bs 3) 1)).1 : Nat), .int .i64 ((rnum (rsq (begunSt bs 3) 2)).1 : Nat), .int .i64 ((rnum (rsq (begunSt bs 3) 3)).1 : Nat)], .int .i64 0])) ∧ St w0 [] [] w) := by
  have hS : Own [] w0 := St.start w0
  refine calls_enterC (l := [.slice A bs.length c]) (fn := Tryd.f14) Tryd.func14 rfl Tryd.ntmps14 (Nat.le_of_ble_eq_true rfl) ?_
  refine W_seq ?_
  refine W_region ?_
  refine O_alloc hS rfl rfl (fun b2 w hS => ?_)
  refine O_assign rfl rfl rfl ?_
  refine O_end ?_
  refine W_seq ?_
  refine W_region ?_
  refine O_move rfl rfl rfl ?_
  have hcall := begun_spec (c := c) (k := 3) (hS.rd hr (Apart.of_nil _ _)) hb
  refine O_call rfl rfl rfl hcall (fun x w ⟨r, v, b, G, hz, hV, hk⟩ => ?_)
  subst hz
  have hS := hS.after0 hk
  have hl : (begunSt bs 3).left.length ≤ 1000000000 := by
    unfold begunSt
    split
    · exact rnum_left' (some bs) hb
    · simp [RSt.left]
  refine O_assign rfl rfl rfl ?_
  refine O_end ?_
  refine W_seq ?_
  refine W_region ?_
  refine O_move rfl rfl rfl ?_
  have hcalla := rnum_spec hS.own2 hV (rsq_left (begunSt bs 3) hl 0)
  refine O_call rfl rfl rfl hcalla (fun x w ⟨hz, v, b, hV, hk⟩ => ?_)
  subst hz
  have hS := hS.after2 hk
  refine O_move rfl rfl rfl ?_
  have hcallb := rnum_spec hS.own2 hV (rsq_left (begunSt bs 3) hl 1)
  refine O_call rfl rfl rfl hcallb (fun x w ⟨hz, v, b, hV, hk⟩ => ?_)
  subst hz
  have hS := hS.after2 hk
  refine O_move rfl rfl rfl ?_
  have hcallc := rnum_spec hS.own2 hV (rsq_left (begunSt bs 3) hl 2)
  refine O_call rfl rfl rfl hcallc (fun x w ⟨hz, v, b, hV, hk⟩ => ?_)
  subst hz
  have hS := hS.after2 hk
  refine O_move rfl rfl rfl ?_
  have hcalld := rnum_spec hS.own2 hV (rsq_left (begunSt bs 3) hl 3)
  refine O_call rfl rfl rfl hcalld (fun x w ⟨hz, v, b, hV, hk⟩ => ?_)
  subst hz
  have hS := hS.after2 hk
  refine O_build (c := #[.int .i64 ((rnum (begunSt bs 3)).1 : Nat), .int .i64 ((rnum (rsq (begunSt bs 3) 1)).1 : Nat), .int .i64 ((rnum (rsq (begunSt bs 3) 2)).1 : Nat), .int .i64 ((rnum (rsq (begunSt bs 3) 3)).1 : Nat)]) rfl rfl rfl (fun _ => by kernel_rfl) ?_
  refine O_alloc hS rfl rfl (fun b5 w hS => ?_)
  refine O_storeAgg hS rfl rfl rfl rfl rfl (Nat.le_of_ble_eq_true rfl) (fun w hS => ?_)
  refine O_end ?_
  refine W_seq ?_
  refine W_seq ?_
  refine W_region ?_
  refine O_move rfl rfl rfl ?_
  have hS := hS.f1.f2.f1
  have hcall := whole_spec hS.own2 hV
  refine O_call rfl rfl rfl hcall (fun x w ⟨hz, hk⟩ => ?_)
  subst hz
  have hS := (hS.after2 hk).f2
  refine O_not rfl rfl rfl ?_
  refine O_move rfl rfl rfl ?_
  refine O_part 20 rfl (fun c20 => ?_) (fun c20 => ?_)
  · skip
    refine O_skip rfl rfl ?_
    refine O_skip rfl rfl ?_
    refine O_skip rfl rfl ?_
    first | refine O_pick_true rfl rfl rfl rfl ?_ | refine O_pick_false rfl rfl rfl rfl ?_
    refine O_end ?_
    refine W_if_true rfl (rfl) ?_
    refine W_seq ?_
    refine W_region ?_
    refine O_build (c := #[iv 0, iv 0, iv 0, iv 0]) rfl rfl rfl (fun _ => by kernel_rfl) ?_
    refine O_storeAgg hS.f3 rfl rfl rfl rfl rfl (Nat.le_of_ble_eq_true rfl) (fun w hS => ?_)
    refine O_assign rfl rfl rfl ?_
    refine O_end ?_
    refine W_ret ⟨_, res_cell_tmp Tryd.results14 rfl rfl rfl rfl (hS.rdAll), ?_⟩
    exact ⟨.inl rfl, hS.bare⟩
  · skip
    refine O_loadAgg rfl rfl rfl rfl rfl hS.rdAll ?_
    have hcall := isMark_spec (w0 := w) (k := ((rnum (begunSt bs 3)).1 : Nat)) (p := ((rnum (rsq (begunSt bs 3) 1)).1 : Nat)) (e := ((rnum (rsq (begunSt bs 3) 2)).1 : Nat)) (t := ((rnum (rsq (begunSt bs 3) 3)).1 : Nat))
    refine O_call rfl rfl rfl hcall (fun r w ⟨hz, hk⟩ => ?_)
    subst hz
    have hS := hS.after0 hk
    refine O_not rfl rfl rfl ?_
    first | refine O_pick_true rfl rfl rfl rfl ?_ | refine O_pick_false rfl rfl rfl rfl ?_
    refine O_end ?_
    refine W_if rfl (fun c24 => ?_) (fun c24 => ?_)
    · skip
      refine W_seq ?_
      refine W_region ?_
      refine O_build (c := #[iv 0, iv 0, iv 0, iv 0]) rfl rfl rfl (fun _ => by kernel_rfl) ?_
      refine O_storeAgg hS.f3 rfl rfl rfl rfl rfl (Nat.le_of_ble_eq_true rfl) (fun w hS => ?_)
      refine O_assign rfl rfl rfl ?_
      refine O_end ?_
      refine W_ret ⟨_, res_cell_tmp Tryd.results14 rfl rfl rfl rfl (hS.rdAll), ?_⟩
      exact ⟨.inl rfl, hS.bare⟩
    · skip
      refine W_skip ?_
      refine W_seq ?_
      refine W_region ?_
      refine O_loadAgg rfl rfl rfl rfl rfl hS.rdAll ?_
      refine O_storeAgg hS.f3 rfl rfl rfl rfl rfl (Nat.le_of_ble_eq_true rfl) (fun w hS => ?_)
      refine O_assign rfl rfl rfl ?_
      refine O_end ?_
      refine W_ret ⟨_, res_cell_tmp Tryd.results14 rfl rfl rfl rfl (hS.rdAll), ?_⟩
      have h4 : rsq (begunSt bs 3) 4 = some [] := by
        have := c20
        simp only [Bool.not_eq_false', decide_eq_true_eq] at this
        exact this
      exact ⟨.inr ⟨h4, rfl⟩, hS.bare⟩

theorem and_mask16 (z : Int) : ∃ m : Nat, m ≤ 65535 ∧ evalBin .and .i64 z 65535 = some (.int .i64 (m : Int)) := by
  refine ⟨(BitVec.ofInt 64 z &&& 65535#64).toNat, ?_, ?_⟩
  · rw [BitVec.toNat_and]
    exact Nat.le_trans Nat.and_le_right (by decide)
  · have h1 : (BitVec.ofInt 64 z &&& 65535#64).toNat ≤ 65535 := by
      rw [BitVec.toNat_and]
      exact Nat.le_trans Nat.and_le_right (by decide)
    have h2 : BitVec.ofInt IntKind.i64.bits 65535 = (65535#64 : BitVec 64) := rfl
    show some (Value.int .i64 (IntKind.i64.wrap ((BitVec.ofInt IntKind.i64.bits z &&& BitVec.ofInt IntKind.i64.bits 65535).toNat : Int))) = _
    rw [h2]
    exact congrArg (fun q => some (Value.int .i64 q)) (conv_i64 (BitVec.ofInt 64 z &&& 65535#64).toNat (by omega))
theorem eq_mark (a b c d a' b' c' d' : Int) (w : World) : (Op.equalIn 10000 35 (.agg #[iv a, iv b, iv c, iv d]) (.agg #[iv a', iv b', iv c', iv d'])).run Tryd.prog w = .ok ((a == a') && ((b == b') && ((c == c') && ((d == d') && true)))) w := by
  have hu : Tryd.prog.underlying 3 = some (.int .i64) := (inferInstance : Und Tryd.prog 3 (.int .i64)).h
  rw [run_equalIn_agg w 9999 35 _ _ (by kernel_rfl) (by kernel_rfl)]
  exact eqFields_int (by decide) hu rfl rfl (eqFields_int (by decide) hu rfl rfl (eqFields_int (by decide) hu rfl rfl (eqFields_int (by decide) hu rfl rfl eqFields_nil)))

end Go.Proofs.YtaglgnjamihdnaaDoor.R
