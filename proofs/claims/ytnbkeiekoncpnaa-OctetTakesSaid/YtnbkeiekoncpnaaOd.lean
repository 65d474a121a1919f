/- What each law looks at besides: some numbers, a row, a sum. -/
import Derived.Test.YtnbkeiekoncpnaaOc
namespace Go.Proofs.Ytnbkeiekoncpnaa.R
open Go Go.RowKit Go.Proofs
set_option linter.unusedVariables false
set_option linter.unusedSimpArgs false
set_option maxRecDepth 20000

theorem known_bytes : encs [1, 300] ++ encRows [[97]] = [1, 172, 2, 1, 97] := by
  have h1 : clampN 1 = 1 := by decide
  have h2 : clampN 300 = 300 := by decide
  simp only [encs_cons, encs_nil, h1, h2, encRows, encRow, List.flatMap_cons, List.flatMap_nil, List.length_cons, List.length_nil]
  rw [enc_small (by decide : (1 : Nat) < 128), enc_big (by decide : ¬ (300 : Nat) < 128), enc_small (by decide : (300 : Nat) / 128 < 128)]
  decide
theorem known_sum : crc [49, 50, 51, 52, 53, 54, 55, 56, 57] = 0xcbf43926#32 := by decide +kernel

theorem known_spec {w0 : World} : Calls Try.prog 11 #[] w0 (Ret fun r w => r = .bool true ∧ St w0 [] [] w) := by
  have hS : Own [] w0 := St.start w0
  refine calls_enter (l := []) Try.func11 rfl Try.ntmps11 Try.results11 (Nat.le_of_ble_eq_true rfl) ?_
  refine W_seq ?_
  refine W_region ?_
  refine O_assign rfl rfl rfl ?_
  refine O_end ?_
  refine W_seq ?_
  refine W_region ?_
  refine O_alloc hS rfl rfl (fun b1 w hS => ?_)
  have hS : St w0 [] [wcell b1 (.slice none 0 0), []] w := hS.empty.f1
  refine O_end ?_
  refine W_seq ?_
  refine W_region ?_
  refine O_lit hS rfl rfl rfl rfl rfl rfl (Nat.le_of_ble_eq_true rfl) (fun b2 w hS => ?_)
  have hn := hS.rdAll
  have hna := hS.apart_first (off := 0) (sp := none) (vs := [iv 1, iv 300])
  have hS := hS.f2.f2
  refine O_call rfl rfl rfl (nums_spec (bs := []) (ns := [1, 300]) hS.own2 (Row.nil _ _) hn hna (by decide)) (fun r w ⟨_, v, R, hR, hk⟩ => ?_)
  have hS := (hS.after2 hk).f2.drop
  refine O_end ?_
  refine W_seq ?_
  refine W_region ?_
  refine O_lit hS rfl rfl rfl rfl rfl rfl (Nat.le_of_ble_eq_true rfl) (fun b4 w hS => ?_)
  refine O_stringish hS rfl rfl rfl (fun w hS => ?_)
  refine O_lit hS rfl rfl rfl rfl rfl rfl (Nat.le_of_ble_eq_true rfl) (fun b6 w hS => ?_)
  have hn1 : Rd w (some ⟨b6, 0, none⟩) [.slice (some ⟨b4, 0, none⟩) 1 1] := hS.rdAll
  have ha1 := hS.apart_first (off := 0) (sp := none) (vs := [.slice (some ⟨b4, 0, none⟩) 1 1])
  have hS := hS.f1
  have hn2 : Rd w (some ⟨b4, 0, none⟩) (bvs [97]) := hS.rdAll
  have ha2 := hS.apart_first (off := 0) (sp := none) (vs := bvs [97])
  have hS := hS.f3.f3
  have hb : RdB w (some ⟨b6, 0, none⟩) [[97]] (idsOf [wcell b1 v, R]) := RdB.one hn1 rfl (ha1.sub (ids_sub (by simp))) hn2 (ha2.sub (ids_sub (by simp)))
  refine O_call rfl rfl rfl (bytes_spec (rows := [[97]]) hS.own2 hR hb (by have := encs_len [1, 300]; simp [wt] at *; omega)) (fun r w ⟨_, v, R, hR, hk⟩ => ?_)
  have hS := (hS.after2 hk).f3.drop.f2.drop
  rw [List.nil_append, known_bytes] at hR
  refine O_end ?_
  refine W_seq ?_
  refine W_region ?_
  refine O_call rfl rfl rfl (out_spec hS.own2 hR (by decide)) (fun r w ⟨G, hG, hk⟩ => ?_)
  have hS := hS.after2 hk
  refine O_lit hS rfl rfl rfl rfl rfl rfl (Nat.le_of_ble_eq_true rfl) (fun b9 w hS => ?_)
  obtain ⟨A, c, rfl, _, _, hrd, _⟩ := hG.rd hS.f1
  have hn : Rd w (some ⟨b9, 0, none⟩) (bvs [1, 172, 2, 1, 97]) := hS.rdAll
  refine O_call rfl rfl rfl (same_spec (xs := [1, 172, 2, 1, 97]) (ys := [1, 172, 2, 1, 97]) hrd hn (by decide)) (fun r w ⟨hr, hk⟩ => ?_)
  subst hr
  have hS := hS.after0 hk
  refine O_move rfl rfl rfl ?_
  refine O_know 11 (.bool true) rfl (congrArg Value.bool ((show decide (([1, 172, 2, 1, 97] : List UInt8) = [1, 172, 2, 1, 97]) = true from by decide))) ?_
  refine O_lit hS rfl rfl rfl rfl rfl rfl (Nat.le_of_ble_eq_true rfl) (fun b12 w hS => ?_)
  refine O_stringish hS rfl rfl rfl (fun w hS => ?_)
  refine O_lit hS rfl rfl rfl rfl rfl rfl (Nat.le_of_ble_eq_true rfl) (fun b14 w hS => ?_)
  refine O_stringish hS rfl rfl rfl (fun w hS => ?_)
  refine O_lit hS rfl rfl rfl rfl rfl rfl (Nat.le_of_ble_eq_true rfl) (fun b16 w hS => ?_)
  have hn1 : Rd w (some ⟨b16, 0, none⟩) [.slice (some ⟨b12, 0, none⟩) 4 4, .slice (some ⟨b14, 0, none⟩) 5 5] := hS.rdAll
  have hS := hS.f1
  have hn2 : Rd w (some ⟨b14, 0, none⟩) (bvs [53, 54, 55, 56, 57]) := hS.rdAll
  have hS := hS.f2
  have hn3 : Rd w (some ⟨b12, 0, none⟩) (bvs [49, 50, 51, 52]) := hS.rdAll
  have hb : RdB w (some ⟨b16, 0, none⟩) [[49, 50, 51, 52], [53, 54, 55, 56, 57]] [] := RdB.two hn1 rfl rfl (Apart.of_nil _ _) hn3 (Apart.of_nil _ _) hn2 (Apart.of_nil _ _)
  have hsum := sum_spec (c := 2) hb (by decide)
  rw [show ([[49, 50, 51, 52], [53, 54, 55, 56, 57]] : List (List UInt8)).flatten = [49, 50, 51, 52, 53, 54, 55, 56, 57] from rfl, known_sum] at hsum
  refine O_call rfl rfl rfl hsum (fun r w ⟨hr, hk⟩ => ?_)
  subst hr
  have hS := hS.after0 hk
  refine O_bin rfl rfl rfl rfl rfl ?_
  first | refine O_pick_true rfl rfl rfl rfl ?_ | refine O_pick_false rfl rfl rfl rfl ?_
  refine O_assign rfl rfl rfl ?_
  refine O_end ?_
  refine W_ret ⟨_, rfl, ?_⟩
  exact ⟨rfl, (hS.drop.drop.drop.drop.drop.drop.drop)⟩

end Go.Proofs.Ytnbkeiekoncpnaa.R
