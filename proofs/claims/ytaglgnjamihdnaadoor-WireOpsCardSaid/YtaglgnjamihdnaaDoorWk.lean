/- strings.Trim of the letters a to z: is nothing left? -/
import Derived.Test.YtaglgnjamihdnaaDoorRg
import Derived.Test.YtaglgnjamihdnaaDoorWb
namespace Go.Proofs.YtaglgnjamihdnaaDoor.R
open Go Go.RowKit Go.Proofs
set_option linter.unusedVariables false
set_option linter.unusedSimpArgs false
set_option maxRecDepth 20000

def letters : List UInt8 := [97, 98, 99, 100, 101, 102, 103, 104, 105, 106, 107, 108, 109, 110, 111, 112, 113, 114, 115, 116, 117, 118, 119, 120, 121, 122]
def isletter (b : UInt8) : Bool := decide (97 ≤ b.toNat ∧ b.toNat ≤ 122)
/-- The set of which the first j letters are in. -/
def aset (j : Nat) : Array Value := ((List.range 256).map fun i => Value.bool (decide (97 ≤ i ∧ i < 97 + j))).toArray
abbrev acell (b : Nat) (j : Nat) : List Chunk := [(b, .cells (aset j) 77 (0, 0))]
theorem aset_size (j : Nat) : (aset j).size = 256 := by simp [aset]
theorem aset_get (j i : Nat) (hi : i < 256) : (aset j)[i]? = some (.bool (decide (97 ≤ i ∧ i < 97 + j))) := by
  simp [aset, List.getElem?_range hi, hi]
theorem aset_step (j : Nat) (hj : j < 26) : (aset j).setIfInBounds (97 + j) (.bool true) = aset (j + 1) := by
  apply Array.ext_getElem?
  intro i
  by_cases hi : i < 256
  · by_cases he : i = 97 + j
    · subst he
      rw [Array.getElem?_setIfInBounds_self_of_lt (by rw [aset_size]; omega), aset_get _ _ hi]
      congr 2
      symm
      rw [decide_eq_true_eq]
      omega
    · rw [Array.getElem?_setIfInBounds_ne (by omega), aset_get _ _ hi, aset_get _ _ hi]
      congr 2
      rw [decide_eq_decide]
      omega
  · rw [Array.getElem?_eq_none (by rw [Array.size_setIfInBounds, aset_size]; omega), Array.getElem?_eq_none (by rw [aset_size]; omega)]
theorem aset_letter (c : UInt8) : (aset 26)[c.toNat]? = some (.bool (isletter c)) := by
  have := c.toNat_lt
  rw [aset_get _ _ (by omega)]
  unfold isletter
  congr 2
  rw [decide_eq_decide]
  omega

theorem contains_spec {w0 : World} {b : Nat} {c : UInt8} (hS : Own [acell b 26] w0) : Calls Tryd.prog 53 #[.pointer (some ⟨b, 0, none⟩), .int .u8 (c.toNat : Int)] w0 (Ret fun r w => r = .bool (isletter c) ∧ St w0 (idsOf [acell b 26]) [acell b 26] w) := by
  refine calls_enter (l := [.pointer (some ⟨b, 0, none⟩), .int .u8 (c.toNat : Int)]) Tryd.func53 rfl Tryd.ntmps53 Tryd.results53 (Nat.le_of_ble_eq_true rfl) ?_
  refine W_seq ?_
  refine W_region ?_
  refine O_assign rfl rfl rfl ?_
  refine O_end ?_
  refine W_seq ?_
  refine W_region ?_
  refine O_move rfl rfl rfl ?_
  refine O_move rfl rfl rfl ?_
  refine O_nilCheck rfl rfl rfl ?_
  refine O_indexArr (j := c.toNat) rfl rfl rfl rfl (by have := c.toNat_lt; omega) ?_
  refine O_load rfl rfl rfl rfl (hS.cell (v := .bool (isletter c)) (by rw [Nat.zero_add, Nat.mul_one]; exact aset_letter c)) ?_
  refine O_assign rfl rfl rfl ?_
  refine O_end ?_
  refine W_ret ⟨_, rfl, ?_⟩
  exact ⟨rfl, hS⟩

theorem trimLeft_spec {w0 : World} {b : Nat} {s : List UInt8} (hS : Own [acell b 26] w0) : Calls Tryd.prog 49 #[.string (strOf s), .pointer (some ⟨b, 0, none⟩)] w0 (Ret fun r w => r = .string (strOf (s.dropWhile isletter)) ∧ St w0 (idsOf [acell b 26]) [acell b 26] w) := by
  refine calls_enter (l := [.string (strOf s), .pointer (some ⟨b, 0, none⟩)]) Tryd.func49 rfl Tryd.ntmps49 Tryd.results49 (Nat.le_of_ble_eq_true rfl) ?_
  refine W_seq ?_
  refine W_region ?_
  refine O_assign rfl rfl rfl ?_
  refine O_end ?_
  refine W_seq ?_
  refine W_block ?_
  refine W_loop (ι := List UInt8) (fun i => [(0, .string (strOf i)), (1, .pointer (some ⟨b, 0, none⟩))])
      (fun i w => i.dropWhile isletter = s.dropWhile isletter ∧ St w0 (idsOf [acell b 26]) [acell b 26] w) (fun i => i.length) s ⟨rfl, rfl, trivial⟩ ⟨rfl, hS⟩ ?_
  rintro s1 w ⟨hs1, hS⟩
  refine W_seq ?_
  refine W_seq ?_
  refine W_region ?_
  refine O_move rfl rfl rfl ?_
  refine O_lenstr rfl rfl rfl rfl ?_
  refine O_bin rfl rfl rfl rfl rfl ?_
  refine O_end ?_
  refine W_if rfl (fun c7 => ?_) (fun c7 => ?_)
  · skip
    refine W_skip ?_
    refine W_block ?_
    refine W_seq ?_
    refine W_seq ?_
    refine W_region ?_
    skip
    refine O_move rfl rfl rfl ?_
    refine O_move rfl rfl rfl ?_
    have hpos : 0 < s1.length := by have := of_decide_eq_true c7; omega
    refine O_index_str (j := 0) rfl rfl rfl rfl hpos ?_
    have hcall := contains_spec (c := s1[0]) hS.own1
    refine O_call rfl rfl rfl hcall (fun r w ⟨hz, hk⟩ => ?_)
    subst hz
    have hS := hS.after1 hk
    refine O_not rfl rfl rfl ?_
    refine O_end ?_
    refine W_if rfl (fun c12 => ?_) (fun c12 => ?_)
    · skip
      refine W_exit ?_
      refine W_seq ?_
      refine W_region ?_
      refine O_move rfl rfl rfl ?_
      refine O_assign rfl rfl rfl ?_
      refine O_end ?_
      refine W_ret ⟨_, rfl, ?_⟩
      have hl : isletter s1[0] = false := by simpa using c12
      refine ⟨?_, hS⟩
      rw [← hs1]
      cases s1 with
      | nil => simp at hpos
      | cons x r =>
        have hx : isletter x = false := hl
        rw [List.dropWhile_cons, hx]
        rfl
    · skip
      refine W_skip ?_
      refine W_region ?_
      refine O_move rfl rfl rfl ?_
      refine O_slice_str_from (j := 1) rfl rfl rfl rfl (by omega) ?_
      refine O_assign rfl rfl rfl ?_
      refine O_end ?_
      have hl : isletter s1[0] = true := by simpa using c12
      have hcons : s1 = s1[0] :: s1.drop 1 := by cases s1 with | nil => simp at hpos | cons x r => rfl
      refine ⟨s1.drop 1, ⟨rfl, rfl, trivial⟩, ⟨?_, hS⟩, by rw [List.length_drop]; omega⟩
      rw [← hs1]
      conv => rhs; rw [hcons]
      rw [List.dropWhile_cons, if_pos hl]
  · skip
    refine W_exit ?_
    refine W_seq ?_
    refine W_region ?_
    refine O_move rfl rfl rfl ?_
    refine O_assign rfl rfl rfl ?_
    refine O_end ?_
    refine W_ret ⟨_, rfl, ?_⟩
    have h0 : s1 = [] := by
      have := of_decide_eq_false c7
      exact List.length_eq_zero_iff.1 (by omega)
    subst h0
    refine ⟨?_, hS⟩
    rw [← hs1]
    rfl

theorem i64_pred (k : Nat) (h0 : 0 < k) (h : k < 9223372036854775807) : evalBin .sub .i64 (k : Int) 1 = some (.int .i64 ((k - 1 : Nat) : Int)) := by
  have : IntKind.i64.wrap ((k : Int) - 1) = ((k - 1 : Nat) : Int) := by rw [IntKind.wrap_i64]; omega
  show some (Value.int .i64 (IntKind.i64.wrap ((k : Int) - 1))) = _
  rw [this]
def trimR (s : List UInt8) : List UInt8 := (s.reverse.dropWhile isletter).reverse
theorem trimR_step (s : List UInt8) (h : 0 < s.length) (hl : isletter (s[s.length - 1]'(by omega)) = true) : trimR (s.take (s.length - 1)) = trimR s := by
  have e : s = s.take (s.length - 1) ++ [s[s.length - 1]'(by omega)] := by
    rw [← List.take_succ_eq_append_getElem (by omega), show s.length - 1 + 1 = s.length by omega, List.take_length]
  unfold trimR
  conv => rhs; rw [e]
  rw [List.reverse_append, List.reverse_singleton, List.singleton_append, List.dropWhile_cons, if_pos hl]
theorem trimR_stop (s : List UInt8) (h : 0 < s.length) (hl : isletter (s[s.length - 1]'(by omega)) = false) : trimR s = s := by
  have e : s = s.take (s.length - 1) ++ [s[s.length - 1]'(by omega)] := by
    rw [← List.take_succ_eq_append_getElem (by omega), show s.length - 1 + 1 = s.length by omega, List.take_length]
  unfold trimR
  rw [e, List.reverse_append, List.reverse_singleton, List.singleton_append, List.dropWhile_cons, hl]
  simp
theorem letters_at (i : Nat) (hi : i < 26) : (letters[i]'hi).toNat = 97 + i := by
  have : ∀ i : Fin 26, (letters[i.1]'i.2).toNat = 97 + i.1 := by decide
  exact this ⟨i, hi⟩
theorem strOf_nil : strOf [] = ⟨#[]⟩ := rfl

theorem trimRight_spec {w0 : World} {b : Nat} {s : List UInt8} (hS : Own [acell b 26] w0) (hl : s.length ≤ 1000000) : Calls Tryd.prog 50 #[.string (strOf s), .pointer (some ⟨b, 0, none⟩)] w0 (Ret fun r w => r = .string (strOf (trimR s)) ∧ St w0 (idsOf [acell b 26]) [acell b 26] w) := by
  refine calls_enter (l := [.string (strOf s), .pointer (some ⟨b, 0, none⟩)]) Tryd.func50 rfl Tryd.ntmps50 Tryd.results50 (Nat.le_of_ble_eq_true rfl) ?_
  refine W_seq ?_
  refine W_region ?_
  refine O_assign rfl rfl rfl ?_
  refine O_end ?_
  refine W_seq ?_
  refine W_block ?_
  refine W_loop (ι := List UInt8) (fun i => [(0, .string (strOf i)), (1, .pointer (some ⟨b, 0, none⟩))])
      (fun i w => i.length ≤ 1000000 ∧ trimR i = trimR s ∧ St w0 (idsOf [acell b 26]) [acell b 26] w) (fun i => i.length) s ⟨rfl, rfl, trivial⟩ ⟨hl, rfl, hS⟩ ?_
  rintro s1 w ⟨hl1, hs1, hS⟩
  refine W_seq ?_
  refine W_seq ?_
  refine W_region ?_
  refine O_move rfl rfl rfl ?_
  refine O_lenstr rfl rfl rfl rfl ?_
  refine O_bin rfl rfl rfl rfl rfl ?_
  refine O_end ?_
  refine W_if rfl (fun c7 => ?_) (fun c7 => ?_)
  · skip
    refine W_skip ?_
    refine W_block ?_
    refine W_seq ?_
    refine W_seq ?_
    refine W_region ?_
    refine O_move rfl rfl rfl ?_
    refine O_move rfl rfl rfl ?_
    refine O_move rfl rfl rfl ?_
    have hpos : 0 < s1.length := by have := of_decide_eq_true c7; omega
    refine O_lenstr rfl rfl rfl rfl ?_
    refine O_bin rfl rfl rfl rfl (i64_pred s1.length hpos (by omega)) ?_
    refine O_index_str (j := s1.length - 1) rfl rfl rfl rfl (by omega) ?_
    have hcall := contains_spec (c := s1[s1.length - 1]) hS.own1
    refine O_call rfl rfl rfl hcall (fun r w ⟨hz, hk⟩ => ?_)
    subst hz
    have hS := hS.after1 hk
    refine O_not rfl rfl rfl ?_
    refine O_end ?_
    refine W_if rfl (fun c15 => ?_) (fun c15 => ?_)
    · skip
      refine W_exit ?_
      refine W_seq ?_
      refine W_region ?_
      refine O_move rfl rfl rfl ?_
      refine O_assign rfl rfl rfl ?_
      refine O_end ?_
      refine W_ret ⟨_, rfl, ?_⟩
      have hlt : isletter s1[s1.length - 1] = false := by simpa using c15
      refine ⟨?_, hS⟩
      rw [← hs1, trimR_stop s1 hpos hlt]
    · skip
      refine W_skip ?_
      refine W_region ?_
      refine O_move rfl rfl rfl ?_
      refine O_move rfl rfl rfl ?_
      refine O_lenstr rfl rfl rfl rfl ?_
      refine O_bin rfl rfl rfl rfl (i64_pred s1.length hpos (by omega)) ?_
      refine O_slice_str_to (j := s1.length - 1) rfl rfl rfl rfl (by omega) ?_
      refine O_assign rfl rfl rfl ?_
      refine O_end ?_
      have hlt : isletter s1[s1.length - 1] = true := by simpa using c15
      exact ⟨s1.take (s1.length - 1), ⟨rfl, rfl, trivial⟩, ⟨by rw [List.length_take]; omega, (trimR_step s1 hpos hlt).trans hs1, hS⟩, by rw [List.length_take]; omega⟩
  · skip
    refine W_exit ?_
    refine W_seq ?_
    refine W_region ?_
    refine O_move rfl rfl rfl ?_
    refine O_assign rfl rfl rfl ?_
    refine O_end ?_
    refine W_ret ⟨_, rfl, ?_⟩
    have h0 : s1 = [] := by
      have := of_decide_eq_false c7
      exact List.length_eq_zero_iff.1 (by omega)
    subst h0
    refine ⟨?_, hS⟩
    rw [← hs1]
    rfl

set_option maxHeartbeats 400000 in
theorem makeSet_spec {w0 : World} : Calls Tryd.prog 48 #[.string (strOf letters)] w0 (Ret fun r w => r = .tuple #[.agg (aset 26).toList.toArray, .bool true] ∧ St w0 [] [] w) := by
  have hS : Own [] w0 := St.start w0
  refine calls_enterC (l := [.string (strOf letters)]) (fn := Tryd.f48) Tryd.func48 rfl Tryd.ntmps48 (Nat.le_of_ble_eq_true rfl) ?_
  refine W_seq ?_
  refine W_region ?_
  refine O_alloc hS rfl rfl (fun b2 w hS => ?_)
  refine O_assign rfl rfl rfl ?_
  refine O_end ?_
  refine W_seq ?_
  refine W_seq ?_
  refine W_region ?_
  refine O_assign rfl rfl rfl ?_
  refine O_end ?_
  refine W_block ?_
  refine W_loop (ι := Nat) (fun i => [(0, .string (strOf letters)), (2, .pointer (some ⟨b2, 0, none⟩)), (4, .int .i64 (i : Nat))])
      (fun i w => i ≤ 26 ∧ St w0 [] [acell b2 i] w) (fun i => 26 - i) 0 ⟨rfl, rfl, rfl, trivial⟩ ⟨Nat.zero_le _, hS⟩ ?_
  rintro i w ⟨hi, hS⟩
  refine W_seq ?_
  refine W_seq ?_
  refine W_region ?_
  refine O_move rfl rfl rfl ?_
  refine O_move rfl rfl rfl ?_
  refine O_lenstr rfl rfl rfl rfl ?_
  refine O_bin rfl rfl rfl rfl rfl ?_
  refine O_end ?_
  refine W_if rfl (fun c9 => ?_) (fun c9 => ?_)
  · skip
    refine W_skip ?_
    refine W_seq ?_
    refine W_block ?_
    refine W_seq ?_
    refine W_region ?_
    refine O_move rfl rfl rfl ?_
    refine O_move rfl rfl rfl ?_
    have hlt : i < 26 := by have := of_decide_eq_true c9; have : letters.length = 26 := rfl; omega
    have hla := letters_at i hlt
    have hsmall : decide (((letters[i]'hlt).toNat : Int) ≥ 128) = false := by rw [decide_eq_false_iff_not]; omega
    refine O_index_str (j := i) rfl rfl rfl rfl hlt ?_
    refine O_assign rfl rfl rfl ?_
    refine O_end ?_
    refine W_seq ?_
    refine W_seq ?_
    refine W_region ?_
    refine O_move rfl rfl rfl ?_
    refine O_bin rfl rfl rfl rfl rfl ?_
    refine O_end ?_
    refine W_if_false rfl (hsmall) ?_
    refine W_skip ?_
    refine W_region ?_
    refine O_move rfl rfl rfl ?_
    refine O_indexArr (j := (letters[i]'hlt).toNat) rfl rfl rfl rfl (by omega) ?_
    refine O_store hS rfl rfl rfl rfl (by rw [aset_size]; omega) (fun w hS => ?_)
    have hS : St w0 [] [acell b2 (i + 1)] w := by
      have h := hS
      rw [show 0 + (letters[i]'hlt).toNat * 1 = 97 + i by omega, aset_step i hlt] at h
      exact h
    refine O_end ?_
    refine W_region ?_
    refine O_move rfl rfl rfl ?_
    refine O_bin rfl rfl rfl rfl (i64_succ i (by omega)) ?_
    refine O_assign rfl rfl rfl ?_
    refine O_end ?_
    exact ⟨i + 1, ⟨rfl, rfl, rfl, trivial⟩, ⟨hlt, hS⟩, by omega⟩
  · skip
    refine W_exit ?_
    refine W_seq ?_
    refine W_region ?_
    have hi' : i = 26 := by have := of_decide_eq_false c9; have : letters.length = 26 := rfl; omega
    subst hi'
    refine O_loadAgg (vs := (aset 26).toList) rfl rfl rfl rfl (by simp [aset]) hS.rdAll ?_
    refine O_storeAgg hS rfl rfl rfl (by kernel_rfl) (by simp [aset]) (by simp [aset]) (fun w hS => ?_)
    have hS := St.whole (vs := (aset 26).toList) hS (by simp)
    refine O_assign rfl rfl rfl ?_
    refine O_end ?_
    refine W_ret ⟨_, res_cell_tmp Tryd.results48 rfl rfl rfl rfl (hS.rdAll), ?_⟩
    exact ⟨rfl, hS.bare⟩

def trimB (s : List UInt8) : List UInt8 := (trimR s).dropWhile isletter
theorem dropWhile_nil : ∀ l : List UInt8, l.dropWhile isletter = [] ↔ l.all isletter = true
  | [] => by simp
  | x :: r => by
    rw [List.dropWhile_cons]
    by_cases h : isletter x = true
    · rw [if_pos h, dropWhile_nil r]; simp [h]
    · rw [if_neg h]; simp [h]
theorem trimB_nil (s : List UInt8) : decide (trimB s = []) = s.all isletter := by
  rw [Bool.eq_iff_iff, decide_eq_true_eq]
  unfold trimB
  rw [dropWhile_nil]
  constructor
  · intro h
    rcases Nat.eq_zero_or_pos s.length with h0 | h0
    · rw [List.length_eq_zero_iff.1 h0]; rfl
    · have key : ∀ (n : Nat) (s : List UInt8), s.length = n → (trimR s).all isletter = true → s.all isletter = true := by
        intro n
        induction n with
        | zero => intro s hs _; rw [List.length_eq_zero_iff.1 hs]; rfl
        | succ n ih =>
          intro s hs h
          have hp : 0 < s.length := by omega
          by_cases hl : isletter (s[s.length - 1]'(by omega)) = true
          · rw [← trimR_step s hp hl] at h
            have h1 := ih (s.take (s.length - 1)) (by rw [List.length_take]; omega) h
            have e : s = s.take (s.length - 1) ++ [s[s.length - 1]'(by omega)] := by
              rw [← List.take_succ_eq_append_getElem (by omega), show s.length - 1 + 1 = s.length by omega, List.take_length]
            rw [e, List.all_append, h1]
            simp [hl]
          · rw [trimR_stop s hp (by simpa using hl)] at h
            exact h
      exact key _ s rfl h
  · intro h
    have h1 : s.reverse.all isletter = true := by rw [List.all_reverse]; exact h
    have h2 := (dropWhile_nil s.reverse).2 h1
    unfold trimR
    rw [h2]
    rfl

theorem trim_spec {w0 : World} {s : List UInt8} (hne : s ≠ []) (hl : s.length ≤ 1000000) : Calls Tryd.prog 34 #[.string (strOf s), .string (strOf letters)] w0 (Ret fun r w => r = .string (strOf (trimB s)) ∧ St w0 [] [] w) := by
  have hS : Own [] w0 := St.start w0
  have h1 : (strOf s == strOf []) = false := by rw [strOf_eq]; simp [hne]
  have h2 : (strOf letters == strOf []) = false := by rw [strOf_eq]; decide
  refine calls_enter (l := [.string (strOf s), .string (strOf letters)]) Tryd.func34 rfl Tryd.ntmps34 Tryd.results34 (Nat.le_of_ble_eq_true rfl) ?_
  refine W_seq ?_
  refine W_region ?_
  refine O_assign rfl rfl rfl ?_
  refine O_end ?_
  refine W_seq ?_
  refine W_seq ?_
  refine W_region ?_
  refine O_move rfl rfl rfl ?_
  refine O_eql_str rfl rfl rfl rfl ?_
  refine O_move rfl rfl rfl ?_
  refine O_know 9 (.bool false) rfl (congrArg Value.bool (h1)) ?_
  refine O_move rfl rfl rfl ?_
  refine O_eql_str rfl rfl rfl rfl ?_
  first | refine O_pick_true rfl rfl rfl rfl ?_ | refine O_pick_false rfl rfl rfl rfl ?_
  refine O_end ?_
  refine W_if_false rfl (h2) ?_
  refine W_skip ?_
  refine W_seq ?_
  refine W_seq ?_
  refine W_region ?_
  refine O_move rfl rfl rfl ?_
  refine O_lenstr rfl rfl rfl rfl ?_
  refine O_bin rfl rfl rfl rfl rfl ?_
  refine O_move rfl rfl rfl ?_
  refine O_know 17 (.bool false) rfl (congrArg Value.bool (rfl)) ?_
  refine O_skip rfl rfl ?_
  refine O_skip rfl rfl ?_
  refine O_skip rfl rfl ?_
  first | refine O_pick_true rfl rfl rfl rfl ?_ | refine O_pick_false rfl rfl rfl rfl ?_
  refine O_end ?_
  refine W_if_false rfl (rfl) ?_
  refine W_skip ?_
  refine W_seq ?_
  refine W_seq ?_
  refine W_region ?_
  refine O_move rfl rfl rfl ?_
  have hcall := makeSet_spec (w0 := w0)
  refine O_call rfl rfl rfl hcall (fun r w ⟨hz, hk⟩ => ?_)
  subst hz
  have hS := hS.after0 hk
  refine O_move rfl rfl rfl ?_
  refine O_extract rfl rfl rfl rfl ?_
  refine O_extract rfl rfl rfl rfl ?_
  refine O_alloc hS rfl rfl (fun b5 w hS => ?_)
  refine O_storeAgg hS rfl rfl rfl (by kernel_rfl) (by simp [aset]) (by decide) (fun w hS => ?_)
  have hS : St w0 [] (acell b5 26 :: _) w := St.whole (vs := (aset 26).toList) hS (by rw [show (aset 26).toList.length = 256 by simp [aset]]; rfl)
  refine O_assign rfl rfl rfl ?_
  refine O_end ?_
  refine W_seq ?_
  refine W_region ?_
  refine O_move rfl rfl rfl ?_
  refine O_end ?_
  refine W_if_true rfl (rfl) ?_
  refine W_seq ?_
  refine W_region ?_
  refine O_move rfl rfl rfl ?_
  have hcall := trimRight_spec hS.own1 hl
  refine O_call rfl rfl rfl hcall (fun r w ⟨hz, hk⟩ => ?_)
  subst hz
  have hS := hS.after1 hk
  have hcall := trimLeft_spec (s := trimR s) hS.own1
  refine O_call rfl rfl rfl hcall (fun r w ⟨hz, hk⟩ => ?_)
  subst hz
  have hS := hS.after1 hk
  refine O_assign rfl rfl rfl ?_
  refine O_end ?_
  refine W_ret ⟨_, rfl, ?_⟩
  exact ⟨rfl, hS.bare⟩

end Go.Proofs.YtaglgnjamihdnaaDoor.R
