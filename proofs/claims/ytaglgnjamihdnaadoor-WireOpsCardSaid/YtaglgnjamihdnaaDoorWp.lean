/- Bytes as an operation. -/
import Derived.Test.YtaglgnjamihdnaaDoorWo
import Derived.Test.YtaglgnjamihdnaaDoorOq
namespace Go.Proofs.YtaglgnjamihdnaaDoor.R
open Go Go.RowKit Go.Proofs
set_option linter.unusedVariables false
set_option linter.unusedSimpArgs false
set_option maxRecDepth 20000

theorem own_bytes2 {w0 w : World} {F : List Nat} {Gs : List (List Chunk)} {A : Option Addr} {n c : Nat} {bs : List UInt8} {G : List Chunk} (hG : BRow (.slice A n c) bs G) (h : St w0 F (G :: Gs) w) : Rd w A (bvs bs) := by
  obtain ⟨_, _, hq, _, _, hn, _⟩ := hG.rd h
  cases hq
  exact hn
/-- What a Reader holds behind an operation's first part and name. -/
def ops4 (s : RSt) : RSt := (rbytes (rsq s 3)).2
/-- What is read as an operation, but for its last number. -/
def oread0 (s : RSt) : Opr := ⟨((rnum s).1 : Nat), ((rnum (rsq s 1)).1 : Nat), ((rnum (rsq s 2)).1 : Nat), (rbytes (rsq s 3)).1, ((rnum (ops4 s)).1 : Nat), ((rnum (rsq (ops4 s) 1)).1 : Nat), ((rnum (rsq (ops4 s) 2)).1 : Nat), ((rnum (rsq (ops4 s) 3)).1 : Nat), false⟩
def ocommit (s : RSt) : Nat := (rnum (rsq (ops4 s) 4)).1
def oread (s : RSt) : Opr := { oread0 s with cm := ((ocommit s : Nat) : Int) == 1 }
def odone (s : RSt) : RSt := rsq (ops4 s) 5
/-- Do bytes read as an operation? -/
def odec (s : RSt) : Bool := decide (odone s = some []) && (decide (ocommit s ≤ 1) && opok (oread s))
theorem begun_left (bs : List UInt8) (k : Int) (hb : bs.length ≤ 1000000000) : (begunSt bs k).left.length ≤ 1000000000 := by
  unfold begunSt
  split
  · exact rnum_left' (some bs) hb
  · simp [RSt.left]
theorem ops4_left (s : RSt) (hl : s.left.length ≤ 1000000000) : (ops4 s).left.length ≤ 1000000000 := (rbytes_left _ (rsq_left s hl 3)).1
theorem oname_len (s : RSt) (hl : s.left.length ≤ 1000000000) : (oread0 s).nm.length ≤ 1000000000 := (rbytes_left _ (rsq_left s hl 3)).2

set_option maxHeartbeats 1000000 in
theorem decodeOp_spec {w0 : World} {A : Option Addr} {bs : List UInt8} {c : Nat} (hr : Rd w0 A (bvs bs)) (hb : bs.length ≤ 1000000000) :
    Calls Tryd.prog 9 #[.slice A bs.length c] w0 (Ret fun x w => x = .tuple #[.agg (if odec (begunSt bs 2) then oread (begunSt bs 2) else opZ).cs.toArray, .int .i64 (if odec (begunSt bs 2) then 0 else 2)] ∧ St w0 [] [] w) := by
  have hS : Own [] w0 := St.start w0
  have hl := begun_left bs 2 hb
  have hl4 := ops4_left (begunSt bs 2) hl
  refine calls_enterC (l := [.slice A bs.length c]) (fn := Tryd.f9) Tryd.func9 rfl Tryd.ntmps9 (Nat.le_of_ble_eq_true rfl) ?_
  refine W_seq ?_
  refine W_region ?_
  refine O_alloc hS rfl rfl (fun b2 w hS => ?_)
  refine O_assign rfl rfl rfl ?_
  refine O_end ?_
  refine W_seq ?_
  refine W_region ?_
  refine O_move rfl rfl rfl ?_
  have hcall := begun_spec (c := c) (k := 2) (hS.rd hr (Apart.of_nil _ _)) hb
  refine O_call rfl rfl rfl hcall (fun x w ⟨r, v, b, G, hz, hV, hk⟩ => ?_)
  subst hz
  have hS := hS.after0 hk
  refine O_assign rfl rfl rfl ?_
  refine O_end ?_
  refine W_cut (fun σ w => ∃ v b b5, sub σ [(2, .pointer (some ⟨b2, 0, none⟩)), (3, .int .i64 0), (4, .pointer (some ⟨r, 0, none⟩)), (5, .pointer (some ⟨b5, 0, none⟩))] ∧ RView v b (rsq (ops4 (begunSt bs 2)) 4) G ∧ St w0 [] [rcell r v b, G, ocell b5 (oread0 (begunSt bs 2)), ocell b2 opZ] w) ?_ ?_
  · skip
    refine W_drawn (fun w => ∃ Gs, St w0 [] Gs w) ?_
    have hS := hS.drew
    refine OA_take 0 rfl (by kernel_rfl) (by kernel_rfl) (by kernel_rfl) rfl rfl ⟨_, hS⟩ (fun w ⟨_, hS⟩ => E_move rfl) ?_
    refine OA_take 2 rfl (by kernel_rfl) (by kernel_rfl) (by kernel_rfl) rfl rfl ⟨_, hS⟩ (fun w ⟨_, hS⟩ => E_move rfl) ?_
    refine OA_take 4 rfl (by kernel_rfl) (by kernel_rfl) (by kernel_rfl) rfl rfl ⟨_, hS⟩ (fun w ⟨_, hS⟩ => E_move rfl) ?_
    refine OA_take 6 rfl (by kernel_rfl) (by kernel_rfl) (by kernel_rfl) rfl rfl ⟨_, hS⟩ (fun w ⟨_, hS⟩ => E_move rfl) ?_
    refine OA_take 9 rfl (by kernel_rfl) (by kernel_rfl) (by kernel_rfl) rfl rfl ⟨_, hS⟩ (fun w ⟨_, hS⟩ => E_move rfl) ?_
    refine OA_take 11 rfl (by kernel_rfl) (by kernel_rfl) (by kernel_rfl) rfl rfl ⟨_, hS⟩ (fun w ⟨_, hS⟩ => E_move rfl) ?_
    refine OA_take 13 rfl (by kernel_rfl) (by kernel_rfl) (by kernel_rfl) rfl rfl ⟨_, hS⟩ (fun w ⟨_, hS⟩ => E_move rfl) ?_
    refine OA_take 15 rfl (by kernel_rfl) (by kernel_rfl) (by kernel_rfl) rfl rfl ⟨_, hS⟩ (fun w ⟨_, hS⟩ => E_move rfl) ?_
    refine OA_two 1 18 rfl rfl (by kernel_rfl) ?_ ?_
    · skip
      have hcall := rnum_spec hS.own2 hV (hl)
      refine O_call rfl rfl rfl hcall (fun x w ⟨hz, v, b, hV, hk⟩ => ?_)
      subst hz
      have hS := hS.after2 hk
      refine O_end ⟨⟨_, hS⟩, ?_⟩
      refine OA_two 3 18 rfl rfl (by kernel_rfl) ?_ ?_
      · skip
        have hcall := rnum_spec hS.own2 hV (rsq_left (begunSt bs 2) hl 1)
        refine O_call rfl rfl rfl hcall (fun x w ⟨hz, v, b, hV, hk⟩ => ?_)
        subst hz
        have hS := hS.after2 hk
        refine O_end ⟨⟨_, hS⟩, ?_⟩
        refine OA_two 5 18 rfl rfl (by kernel_rfl) ?_ ?_
        · skip
          have hcall := rnum_spec hS.own2 hV (rsq_left (begunSt bs 2) hl 2)
          refine O_call rfl rfl rfl hcall (fun x w ⟨hz, v, b, hV, hk⟩ => ?_)
          subst hz
          have hS := hS.after2 hk
          refine O_end ⟨⟨_, hS⟩, ?_⟩
          refine OA_two 7 18 rfl rfl (by kernel_rfl) ?_ ?_
          · skip
            have hcall := rbytes_spec hS.own2 hV (rsq_left (begunSt bs 2) hl 3)
            refine O_call rfl rfl rfl hcall (fun x w ⟨v, b, G7, hG7, hV, hk⟩ => ?_)
            have hS := (hS.after2 hk).f1.f2.f1
            obtain ⟨A7, c7, rfl, _⟩ := hG7.form
            have hq7 := own_bytes2 hG7 hS.f2
            refine O_end ⟨⟨_, hS⟩, ?_⟩
            refine OA_class (fun w => (fun w => ∃ Gs, St w0 [] Gs w) w ∧ Rd w A7 (bvs (rbytes (rsq (begunSt bs 2) 3)).1)) (fun w h => h.1) ?_
            refine OA_take 8 rfl (by kernel_rfl) (by kernel_rfl) (by kernel_rfl) rfl rfl ⟨⟨_, hS⟩, hq7⟩ (fun w hw => E_str rfl hw.2) ?_
            refine OA_two 10 18 rfl rfl (by kernel_rfl) ?_ ?_
            · skip
              have hcall := rnum_spec hS.own2 hV (hl4)
              refine O_call rfl rfl rfl hcall (fun x w ⟨hz, v, b, hV, hk⟩ => ?_)
              subst hz
              have hS := hS.after2 hk
              have hq7 := own_bytes2 hG7 hS.f2
              refine O_end ⟨⟨⟨_, hS⟩, hq7⟩, ?_⟩
              refine OA_two 12 18 rfl rfl (by kernel_rfl) ?_ ?_
              · skip
                have hcall := rnum_spec hS.own2 hV (rsq_left (ops4 (begunSt bs 2)) hl4 1)
                refine O_call rfl rfl rfl hcall (fun x w ⟨hz, v, b, hV, hk⟩ => ?_)
                subst hz
                have hS := hS.after2 hk
                have hq7 := own_bytes2 hG7 hS.f2
                refine O_end ⟨⟨⟨_, hS⟩, hq7⟩, ?_⟩
                refine OA_two 14 18 rfl rfl (by kernel_rfl) ?_ ?_
                · skip
                  have hcall := rnum_spec hS.own2 hV (rsq_left (ops4 (begunSt bs 2)) hl4 2)
                  refine O_call rfl rfl rfl hcall (fun x w ⟨hz, v, b, hV, hk⟩ => ?_)
                  subst hz
                  have hS := hS.after2 hk
                  have hq7 := own_bytes2 hG7 hS.f2
                  refine O_end ⟨⟨⟨_, hS⟩, hq7⟩, ?_⟩
                  refine OA_two 16 18 rfl rfl (by kernel_rfl) ?_ ?_
                  · skip
                    have hcall := rnum_spec hS.own2 hV (rsq_left (ops4 (begunSt bs 2)) hl4 3)
                    refine O_call rfl rfl rfl hcall (fun x w ⟨hz, v, b, hV, hk⟩ => ?_)
                    subst hz
                    have hS := hS.after2 hk
                    have hq7 := own_bytes2 hG7 hS.f2
                    refine O_end ⟨⟨⟨_, hS⟩, hq7⟩, ?_⟩
                    refine OA_take 17 rfl (by kernel_rfl) (by kernel_rfl) (by kernel_rfl) rfl rfl ⟨⟨_, hS⟩, hq7⟩ (fun w _ => E_build (c := (oread0 (begunSt bs 2)).cs.toArray) rfl (fun _ => by kernel_rfl)) ?_
                    refine OA_one 18 rfl (by kernel_rfl) ?_
                    refine O_alloc hS rfl rfl (fun b5 w hS => ?_)
                    have hS := hS.f3.f3.f3
                    have hq7 := own_bytes2 hG7 hS.f2
                    refine O_end ⟨⟨⟨_, hS⟩, hq7⟩, ?_⟩
                    refine OA_one 19 rfl (by kernel_rfl) ?_
                    refine O_storeAgg hS.f3 rfl rfl rfl rfl rfl (Nat.le_of_ble_eq_true rfl) (fun w hS => ?_)
                    have hS := (St.whole (vs := (oread0 (begunSt bs 2)).cs) hS rfl).f3.f3.f3
                    have hq7 := own_bytes2 hG7 hS.f2
                    refine O_end ⟨⟨⟨_, hS⟩, hq7⟩, ?_⟩
                    refine OA_end (by kernel_rfl) ?_
                    exact ⟨_, _, _, ⟨rfl, rfl, rfl, rfl, trivial⟩, hV, hS.f2.drop⟩
                  · skip
                    refine O_alloc hS rfl rfl (fun b5 w hS => ?_)
                    have hS := hS.f3.f3.f3
                    have hq7 := own_bytes2 hG7 hS.f2
                    refine O_end ⟨⟨⟨_, hS⟩, hq7⟩, ?_⟩
                    refine OA_one 16 rfl (by kernel_rfl) ?_
                    have hcall := rnum_spec hS.own2 hV (rsq_left (ops4 (begunSt bs 2)) hl4 3)
                    refine O_call rfl rfl rfl hcall (fun x w ⟨hz, v, b, hV, hk⟩ => ?_)
                    subst hz
                    have hS := hS.after2 hk
                    have hq7 := own_bytes2 hG7 hS.f2
                    refine O_end ⟨⟨⟨_, hS⟩, hq7⟩, ?_⟩
                    refine OA_take 17 rfl (by kernel_rfl) (by kernel_rfl) (by kernel_rfl) rfl rfl ⟨⟨_, hS⟩, hq7⟩ (fun w _ => E_build (c := (oread0 (begunSt bs 2)).cs.toArray) rfl (fun _ => by kernel_rfl)) ?_
                    refine OA_one 19 rfl (by kernel_rfl) ?_
                    refine O_storeAgg hS.f3 rfl rfl rfl rfl rfl (Nat.le_of_ble_eq_true rfl) (fun w hS => ?_)
                    have hS := (St.whole (vs := (oread0 (begunSt bs 2)).cs) hS rfl).f3.f3.f3
                    have hq7 := own_bytes2 hG7 hS.f2
                    refine O_end ⟨⟨⟨_, hS⟩, hq7⟩, ?_⟩
                    refine OA_end (by kernel_rfl) ?_
                    exact ⟨_, _, _, ⟨rfl, rfl, rfl, rfl, trivial⟩, hV, hS.f2.drop⟩
                · skip
                  refine O_alloc hS rfl rfl (fun b5 w hS => ?_)
                  have hS := hS.f3.f3.f3
                  have hq7 := own_bytes2 hG7 hS.f2
                  refine O_end ⟨⟨⟨_, hS⟩, hq7⟩, ?_⟩
                  refine OA_one 14 rfl (by kernel_rfl) ?_
                  have hcall := rnum_spec hS.own2 hV (rsq_left (ops4 (begunSt bs 2)) hl4 2)
                  refine O_call rfl rfl rfl hcall (fun x w ⟨hz, v, b, hV, hk⟩ => ?_)
                  subst hz
                  have hS := hS.after2 hk
                  have hq7 := own_bytes2 hG7 hS.f2
                  refine O_end ⟨⟨⟨_, hS⟩, hq7⟩, ?_⟩
                  refine OA_one 16 rfl (by kernel_rfl) ?_
                  have hcall := rnum_spec hS.own2 hV (rsq_left (ops4 (begunSt bs 2)) hl4 3)
                  refine O_call rfl rfl rfl hcall (fun x w ⟨hz, v, b, hV, hk⟩ => ?_)
                  subst hz
                  have hS := hS.after2 hk
                  have hq7 := own_bytes2 hG7 hS.f2
                  refine O_end ⟨⟨⟨_, hS⟩, hq7⟩, ?_⟩
                  refine OA_take 17 rfl (by kernel_rfl) (by kernel_rfl) (by kernel_rfl) rfl rfl ⟨⟨_, hS⟩, hq7⟩ (fun w _ => E_build (c := (oread0 (begunSt bs 2)).cs.toArray) rfl (fun _ => by kernel_rfl)) ?_
                  refine OA_one 19 rfl (by kernel_rfl) ?_
                  refine O_storeAgg hS.f3 rfl rfl rfl rfl rfl (Nat.le_of_ble_eq_true rfl) (fun w hS => ?_)
                  have hS := (St.whole (vs := (oread0 (begunSt bs 2)).cs) hS rfl).f3.f3.f3
                  have hq7 := own_bytes2 hG7 hS.f2
                  refine O_end ⟨⟨⟨_, hS⟩, hq7⟩, ?_⟩
                  refine OA_end (by kernel_rfl) ?_
                  exact ⟨_, _, _, ⟨rfl, rfl, rfl, rfl, trivial⟩, hV, hS.f2.drop⟩
              · skip
                refine O_alloc hS rfl rfl (fun b5 w hS => ?_)
                have hS := hS.f3.f3.f3
                have hq7 := own_bytes2 hG7 hS.f2
                refine O_end ⟨⟨⟨_, hS⟩, hq7⟩, ?_⟩
                refine OA_one 12 rfl (by kernel_rfl) ?_
                have hcall := rnum_spec hS.own2 hV (rsq_left (ops4 (begunSt bs 2)) hl4 1)
                refine O_call rfl rfl rfl hcall (fun x w ⟨hz, v, b, hV, hk⟩ => ?_)
                subst hz
                have hS := hS.after2 hk
                have hq7 := own_bytes2 hG7 hS.f2
                refine O_end ⟨⟨⟨_, hS⟩, hq7⟩, ?_⟩
                refine OA_one 14 rfl (by kernel_rfl) ?_
                have hcall := rnum_spec hS.own2 hV (rsq_left (ops4 (begunSt bs 2)) hl4 2)
                refine O_call rfl rfl rfl hcall (fun x w ⟨hz, v, b, hV, hk⟩ => ?_)
                subst hz
                have hS := hS.after2 hk
                have hq7 := own_bytes2 hG7 hS.f2
                refine O_end ⟨⟨⟨_, hS⟩, hq7⟩, ?_⟩
                refine OA_one 16 rfl (by kernel_rfl) ?_
                have hcall := rnum_spec hS.own2 hV (rsq_left (ops4 (begunSt bs 2)) hl4 3)
                refine O_call rfl rfl rfl hcall (fun x w ⟨hz, v, b, hV, hk⟩ => ?_)
                subst hz
                have hS := hS.after2 hk
                have hq7 := own_bytes2 hG7 hS.f2
                refine O_end ⟨⟨⟨_, hS⟩, hq7⟩, ?_⟩
                refine OA_take 17 rfl (by kernel_rfl) (by kernel_rfl) (by kernel_rfl) rfl rfl ⟨⟨_, hS⟩, hq7⟩ (fun w _ => E_build (c := (oread0 (begunSt bs 2)).cs.toArray) rfl (fun _ => by kernel_rfl)) ?_
                refine OA_one 19 rfl (by kernel_rfl) ?_
                refine O_storeAgg hS.f3 rfl rfl rfl rfl rfl (Nat.le_of_ble_eq_true rfl) (fun w hS => ?_)
                have hS := (St.whole (vs := (oread0 (begunSt bs 2)).cs) hS rfl).f3.f3.f3
                have hq7 := own_bytes2 hG7 hS.f2
                refine O_end ⟨⟨⟨_, hS⟩, hq7⟩, ?_⟩
                refine OA_end (by kernel_rfl) ?_
                exact ⟨_, _, _, ⟨rfl, rfl, rfl, rfl, trivial⟩, hV, hS.f2.drop⟩
            · skip
              refine O_alloc hS rfl rfl (fun b5 w hS => ?_)
              have hS := hS.f3.f3.f3
              have hq7 := own_bytes2 hG7 hS.f2
              refine O_end ⟨⟨⟨_, hS⟩, hq7⟩, ?_⟩
              refine OA_one 10 rfl (by kernel_rfl) ?_
              have hcall := rnum_spec hS.own2 hV (hl4)
              refine O_call rfl rfl rfl hcall (fun x w ⟨hz, v, b, hV, hk⟩ => ?_)
              subst hz
              have hS := hS.after2 hk
              have hq7 := own_bytes2 hG7 hS.f2
              refine O_end ⟨⟨⟨_, hS⟩, hq7⟩, ?_⟩
              refine OA_one 12 rfl (by kernel_rfl) ?_
              have hcall := rnum_spec hS.own2 hV (rsq_left (ops4 (begunSt bs 2)) hl4 1)
              refine O_call rfl rfl rfl hcall (fun x w ⟨hz, v, b, hV, hk⟩ => ?_)
              subst hz
              have hS := hS.after2 hk
              have hq7 := own_bytes2 hG7 hS.f2
              refine O_end ⟨⟨⟨_, hS⟩, hq7⟩, ?_⟩
              refine OA_one 14 rfl (by kernel_rfl) ?_
              have hcall := rnum_spec hS.own2 hV (rsq_left (ops4 (begunSt bs 2)) hl4 2)
              refine O_call rfl rfl rfl hcall (fun x w ⟨hz, v, b, hV, hk⟩ => ?_)
              subst hz
              have hS := hS.after2 hk
              have hq7 := own_bytes2 hG7 hS.f2
              refine O_end ⟨⟨⟨_, hS⟩, hq7⟩, ?_⟩
              refine OA_one 16 rfl (by kernel_rfl) ?_
              have hcall := rnum_spec hS.own2 hV (rsq_left (ops4 (begunSt bs 2)) hl4 3)
              refine O_call rfl rfl rfl hcall (fun x w ⟨hz, v, b, hV, hk⟩ => ?_)
              subst hz
              have hS := hS.after2 hk
              have hq7 := own_bytes2 hG7 hS.f2
              refine O_end ⟨⟨⟨_, hS⟩, hq7⟩, ?_⟩
              refine OA_take 17 rfl (by kernel_rfl) (by kernel_rfl) (by kernel_rfl) rfl rfl ⟨⟨_, hS⟩, hq7⟩ (fun w _ => E_build (c := (oread0 (begunSt bs 2)).cs.toArray) rfl (fun _ => by kernel_rfl)) ?_
              refine OA_one 19 rfl (by kernel_rfl) ?_
              refine O_storeAgg hS.f3 rfl rfl rfl rfl rfl (Nat.le_of_ble_eq_true rfl) (fun w hS => ?_)
              have hS := (St.whole (vs := (oread0 (begunSt bs 2)).cs) hS rfl).f3.f3.f3
              have hq7 := own_bytes2 hG7 hS.f2
              refine O_end ⟨⟨⟨_, hS⟩, hq7⟩, ?_⟩
              refine OA_end (by kernel_rfl) ?_
              exact ⟨_, _, _, ⟨rfl, rfl, rfl, rfl, trivial⟩, hV, hS.f2.drop⟩
          · skip
            refine O_alloc hS rfl rfl (fun b5 w hS => ?_)
            have hS := hS.f1.f2.f1
            refine O_end ⟨⟨_, hS⟩, ?_⟩
            refine OA_one 7 rfl (by kernel_rfl) ?_
            have hcall := rbytes_spec hS.own2 hV (rsq_left (begunSt bs 2) hl 3)
            refine O_call rfl rfl rfl hcall (fun x w ⟨v, b, G7, hG7, hV, hk⟩ => ?_)
            have hS := (hS.after2 hk).f1.f2.f1
            obtain ⟨A7, c7, rfl, _⟩ := hG7.form
            have hq7 := own_bytes2 hG7 hS.f2
            refine O_end ⟨⟨_, hS⟩, ?_⟩
            refine OA_class (fun w => (fun w => ∃ Gs, St w0 [] Gs w) w ∧ Rd w A7 (bvs (rbytes (rsq (begunSt bs 2) 3)).1)) (fun w h => h.1) ?_
            refine OA_take 8 rfl (by kernel_rfl) (by kernel_rfl) (by kernel_rfl) rfl rfl ⟨⟨_, hS⟩, hq7⟩ (fun w hw => E_str rfl hw.2) ?_
            refine OA_one 10 rfl (by kernel_rfl) ?_
            have hcall := rnum_spec hS.own2 hV (hl4)
            refine O_call rfl rfl rfl hcall (fun x w ⟨hz, v, b, hV, hk⟩ => ?_)
            subst hz
            have hS := hS.after2 hk
            have hq7 := own_bytes2 hG7 hS.f2
            refine O_end ⟨⟨⟨_, hS⟩, hq7⟩, ?_⟩
            refine OA_one 12 rfl (by kernel_rfl) ?_
            have hcall := rnum_spec hS.own2 hV (rsq_left (ops4 (begunSt bs 2)) hl4 1)
            refine O_call rfl rfl rfl hcall (fun x w ⟨hz, v, b, hV, hk⟩ => ?_)
            subst hz
            have hS := hS.after2 hk
            have hq7 := own_bytes2 hG7 hS.f2
            refine O_end ⟨⟨⟨_, hS⟩, hq7⟩, ?_⟩
            refine OA_one 14 rfl (by kernel_rfl) ?_
            have hcall := rnum_spec hS.own2 hV (rsq_left (ops4 (begunSt bs 2)) hl4 2)
            refine O_call rfl rfl rfl hcall (fun x w ⟨hz, v, b, hV, hk⟩ => ?_)
            subst hz
            have hS := hS.after2 hk
            have hq7 := own_bytes2 hG7 hS.f2
            refine O_end ⟨⟨⟨_, hS⟩, hq7⟩, ?_⟩
            refine OA_one 16 rfl (by kernel_rfl) ?_
            have hcall := rnum_spec hS.own2 hV (rsq_left (ops4 (begunSt bs 2)) hl4 3)
            refine O_call rfl rfl rfl hcall (fun x w ⟨hz, v, b, hV, hk⟩ => ?_)
            subst hz
            have hS := hS.after2 hk
            have hq7 := own_bytes2 hG7 hS.f2
            refine O_end ⟨⟨⟨_, hS⟩, hq7⟩, ?_⟩
            refine OA_take 17 rfl (by kernel_rfl) (by kernel_rfl) (by kernel_rfl) rfl rfl ⟨⟨_, hS⟩, hq7⟩ (fun w _ => E_build (c := (oread0 (begunSt bs 2)).cs.toArray) rfl (fun _ => by kernel_rfl)) ?_
            refine OA_one 19 rfl (by kernel_rfl) ?_
            refine O_storeAgg hS.f3 rfl rfl rfl rfl rfl (Nat.le_of_ble_eq_true rfl) (fun w hS => ?_)
            have hS := (St.whole (vs := (oread0 (begunSt bs 2)).cs) hS rfl).f3.f3.f3
            have hq7 := own_bytes2 hG7 hS.f2
            refine O_end ⟨⟨⟨_, hS⟩, hq7⟩, ?_⟩
            refine OA_end (by kernel_rfl) ?_
            exact ⟨_, _, _, ⟨rfl, rfl, rfl, rfl, trivial⟩, hV, hS.f2.drop⟩
        · skip
          refine O_alloc hS rfl rfl (fun b5 w hS => ?_)
          have hS := hS.f1.f2.f1
          refine O_end ⟨⟨_, hS⟩, ?_⟩
          refine OA_one 5 rfl (by kernel_rfl) ?_
          have hcall := rnum_spec hS.own2 hV (rsq_left (begunSt bs 2) hl 2)
          refine O_call rfl rfl rfl hcall (fun x w ⟨hz, v, b, hV, hk⟩ => ?_)
          subst hz
          have hS := hS.after2 hk
          refine O_end ⟨⟨_, hS⟩, ?_⟩
          refine OA_one 7 rfl (by kernel_rfl) ?_
          have hcall := rbytes_spec hS.own2 hV (rsq_left (begunSt bs 2) hl 3)
          refine O_call rfl rfl rfl hcall (fun x w ⟨v, b, G7, hG7, hV, hk⟩ => ?_)
          have hS := (hS.after2 hk).f1.f2.f1
          obtain ⟨A7, c7, rfl, _⟩ := hG7.form
          have hq7 := own_bytes2 hG7 hS.f2
          refine O_end ⟨⟨_, hS⟩, ?_⟩
          refine OA_class (fun w => (fun w => ∃ Gs, St w0 [] Gs w) w ∧ Rd w A7 (bvs (rbytes (rsq (begunSt bs 2) 3)).1)) (fun w h => h.1) ?_
          refine OA_take 8 rfl (by kernel_rfl) (by kernel_rfl) (by kernel_rfl) rfl rfl ⟨⟨_, hS⟩, hq7⟩ (fun w hw => E_str rfl hw.2) ?_
          refine OA_one 10 rfl (by kernel_rfl) ?_
          have hcall := rnum_spec hS.own2 hV (hl4)
          refine O_call rfl rfl rfl hcall (fun x w ⟨hz, v, b, hV, hk⟩ => ?_)
          subst hz
          have hS := hS.after2 hk
          have hq7 := own_bytes2 hG7 hS.f2
          refine O_end ⟨⟨⟨_, hS⟩, hq7⟩, ?_⟩
          refine OA_one 12 rfl (by kernel_rfl) ?_
          have hcall := rnum_spec hS.own2 hV (rsq_left (ops4 (begunSt bs 2)) hl4 1)
          refine O_call rfl rfl rfl hcall (fun x w ⟨hz, v, b, hV, hk⟩ => ?_)
          subst hz
          have hS := hS.after2 hk
          have hq7 := own_bytes2 hG7 hS.f2
          refine O_end ⟨⟨⟨_, hS⟩, hq7⟩, ?_⟩
          refine OA_one 14 rfl (by kernel_rfl) ?_
          have hcall := rnum_spec hS.own2 hV (rsq_left (ops4 (begunSt bs 2)) hl4 2)
          refine O_call rfl rfl rfl hcall (fun x w ⟨hz, v, b, hV, hk⟩ => ?_)
          subst hz
          have hS := hS.after2 hk
          have hq7 := own_bytes2 hG7 hS.f2
          refine O_end ⟨⟨⟨_, hS⟩, hq7⟩, ?_⟩
          refine OA_one 16 rfl (by kernel_rfl) ?_
          have hcall := rnum_spec hS.own2 hV (rsq_left (ops4 (begunSt bs 2)) hl4 3)
          refine O_call rfl rfl rfl hcall (fun x w ⟨hz, v, b, hV, hk⟩ => ?_)
          subst hz
          have hS := hS.after2 hk
          have hq7 := own_bytes2 hG7 hS.f2
          refine O_end ⟨⟨⟨_, hS⟩, hq7⟩, ?_⟩
          refine OA_take 17 rfl (by kernel_rfl) (by kernel_rfl) (by kernel_rfl) rfl rfl ⟨⟨_, hS⟩, hq7⟩ (fun w _ => E_build (c := (oread0 (begunSt bs 2)).cs.toArray) rfl (fun _ => by kernel_rfl)) ?_
          refine OA_one 19 rfl (by kernel_rfl) ?_
          refine O_storeAgg hS.f3 rfl rfl rfl rfl rfl (Nat.le_of_ble_eq_true rfl) (fun w hS => ?_)
          have hS := (St.whole (vs := (oread0 (begunSt bs 2)).cs) hS rfl).f3.f3.f3
          have hq7 := own_bytes2 hG7 hS.f2
          refine O_end ⟨⟨⟨_, hS⟩, hq7⟩, ?_⟩
          refine OA_end (by kernel_rfl) ?_
          exact ⟨_, _, _, ⟨rfl, rfl, rfl, rfl, trivial⟩, hV, hS.f2.drop⟩
      · skip
        refine O_alloc hS rfl rfl (fun b5 w hS => ?_)
        have hS := hS.f1.f2.f1
        refine O_end ⟨⟨_, hS⟩, ?_⟩
        refine OA_one 3 rfl (by kernel_rfl) ?_
        have hcall := rnum_spec hS.own2 hV (rsq_left (begunSt bs 2) hl 1)
        refine O_call rfl rfl rfl hcall (fun x w ⟨hz, v, b, hV, hk⟩ => ?_)
        subst hz
        have hS := hS.after2 hk
        refine O_end ⟨⟨_, hS⟩, ?_⟩
        refine OA_one 5 rfl (by kernel_rfl) ?_
        have hcall := rnum_spec hS.own2 hV (rsq_left (begunSt bs 2) hl 2)
        refine O_call rfl rfl rfl hcall (fun x w ⟨hz, v, b, hV, hk⟩ => ?_)
        subst hz
        have hS := hS.after2 hk
        refine O_end ⟨⟨_, hS⟩, ?_⟩
        refine OA_one 7 rfl (by kernel_rfl) ?_
        have hcall := rbytes_spec hS.own2 hV (rsq_left (begunSt bs 2) hl 3)
        refine O_call rfl rfl rfl hcall (fun x w ⟨v, b, G7, hG7, hV, hk⟩ => ?_)
        have hS := (hS.after2 hk).f1.f2.f1
        obtain ⟨A7, c7, rfl, _⟩ := hG7.form
        have hq7 := own_bytes2 hG7 hS.f2
        refine O_end ⟨⟨_, hS⟩, ?_⟩
        refine OA_class (fun w => (fun w => ∃ Gs, St w0 [] Gs w) w ∧ Rd w A7 (bvs (rbytes (rsq (begunSt bs 2) 3)).1)) (fun w h => h.1) ?_
        refine OA_take 8 rfl (by kernel_rfl) (by kernel_rfl) (by kernel_rfl) rfl rfl ⟨⟨_, hS⟩, hq7⟩ (fun w hw => E_str rfl hw.2) ?_
        refine OA_one 10 rfl (by kernel_rfl) ?_
        have hcall := rnum_spec hS.own2 hV (hl4)
        refine O_call rfl rfl rfl hcall (fun x w ⟨hz, v, b, hV, hk⟩ => ?_)
        subst hz
        have hS := hS.after2 hk
        have hq7 := own_bytes2 hG7 hS.f2
        refine O_end ⟨⟨⟨_, hS⟩, hq7⟩, ?_⟩
        refine OA_one 12 rfl (by kernel_rfl) ?_
        have hcall := rnum_spec hS.own2 hV (rsq_left (ops4 (begunSt bs 2)) hl4 1)
        refine O_call rfl rfl rfl hcall (fun x w ⟨hz, v, b, hV, hk⟩ => ?_)
        subst hz
        have hS := hS.after2 hk
        have hq7 := own_bytes2 hG7 hS.f2
        refine O_end ⟨⟨⟨_, hS⟩, hq7⟩, ?_⟩
        refine OA_one 14 rfl (by kernel_rfl) ?_
        have hcall := rnum_spec hS.own2 hV (rsq_left (ops4 (begunSt bs 2)) hl4 2)
        refine O_call rfl rfl rfl hcall (fun x w ⟨hz, v, b, hV, hk⟩ => ?_)
        subst hz
        have hS := hS.after2 hk
        have hq7 := own_bytes2 hG7 hS.f2
        refine O_end ⟨⟨⟨_, hS⟩, hq7⟩, ?_⟩
        refine OA_one 16 rfl (by kernel_rfl) ?_
        have hcall := rnum_spec hS.own2 hV (rsq_left (ops4 (begunSt bs 2)) hl4 3)
        refine O_call rfl rfl rfl hcall (fun x w ⟨hz, v, b, hV, hk⟩ => ?_)
        subst hz
        have hS := hS.after2 hk
        have hq7 := own_bytes2 hG7 hS.f2
        refine O_end ⟨⟨⟨_, hS⟩, hq7⟩, ?_⟩
        refine OA_take 17 rfl (by kernel_rfl) (by kernel_rfl) (by kernel_rfl) rfl rfl ⟨⟨_, hS⟩, hq7⟩ (fun w _ => E_build (c := (oread0 (begunSt bs 2)).cs.toArray) rfl (fun _ => by kernel_rfl)) ?_
        refine OA_one 19 rfl (by kernel_rfl) ?_
        refine O_storeAgg hS.f3 rfl rfl rfl rfl rfl (Nat.le_of_ble_eq_true rfl) (fun w hS => ?_)
        have hS := (St.whole (vs := (oread0 (begunSt bs 2)).cs) hS rfl).f3.f3.f3
        have hq7 := own_bytes2 hG7 hS.f2
        refine O_end ⟨⟨⟨_, hS⟩, hq7⟩, ?_⟩
        refine OA_end (by kernel_rfl) ?_
        exact ⟨_, _, _, ⟨rfl, rfl, rfl, rfl, trivial⟩, hV, hS.f2.drop⟩
    · skip
      refine O_alloc hS rfl rfl (fun b5 w hS => ?_)
      have hS := hS.f1.f2.f1
      refine O_end ⟨⟨_, hS⟩, ?_⟩
      refine OA_one 1 rfl (by kernel_rfl) ?_
      have hcall := rnum_spec hS.own2 hV (hl)
      refine O_call rfl rfl rfl hcall (fun x w ⟨hz, v, b, hV, hk⟩ => ?_)
      subst hz
      have hS := hS.after2 hk
      refine O_end ⟨⟨_, hS⟩, ?_⟩
      refine OA_one 3 rfl (by kernel_rfl) ?_
      have hcall := rnum_spec hS.own2 hV (rsq_left (begunSt bs 2) hl 1)
      refine O_call rfl rfl rfl hcall (fun x w ⟨hz, v, b, hV, hk⟩ => ?_)
      subst hz
      have hS := hS.after2 hk
      refine O_end ⟨⟨_, hS⟩, ?_⟩
      refine OA_one 5 rfl (by kernel_rfl) ?_
      have hcall := rnum_spec hS.own2 hV (rsq_left (begunSt bs 2) hl 2)
      refine O_call rfl rfl rfl hcall (fun x w ⟨hz, v, b, hV, hk⟩ => ?_)
      subst hz
      have hS := hS.after2 hk
      refine O_end ⟨⟨_, hS⟩, ?_⟩
      refine OA_one 7 rfl (by kernel_rfl) ?_
      have hcall := rbytes_spec hS.own2 hV (rsq_left (begunSt bs 2) hl 3)
      refine O_call rfl rfl rfl hcall (fun x w ⟨v, b, G7, hG7, hV, hk⟩ => ?_)
      have hS := (hS.after2 hk).f1.f2.f1
      obtain ⟨A7, c7, rfl, _⟩ := hG7.form
      have hq7 := own_bytes2 hG7 hS.f2
      refine O_end ⟨⟨_, hS⟩, ?_⟩
      refine OA_class (fun w => (fun w => ∃ Gs, St w0 [] Gs w) w ∧ Rd w A7 (bvs (rbytes (rsq (begunSt bs 2) 3)).1)) (fun w h => h.1) ?_
      refine OA_take 8 rfl (by kernel_rfl) (by kernel_rfl) (by kernel_rfl) rfl rfl ⟨⟨_, hS⟩, hq7⟩ (fun w hw => E_str rfl hw.2) ?_
      refine OA_one 10 rfl (by kernel_rfl) ?_
      have hcall := rnum_spec hS.own2 hV (hl4)
      refine O_call rfl rfl rfl hcall (fun x w ⟨hz, v, b, hV, hk⟩ => ?_)
      subst hz
      have hS := hS.after2 hk
      have hq7 := own_bytes2 hG7 hS.f2
      refine O_end ⟨⟨⟨_, hS⟩, hq7⟩, ?_⟩
      refine OA_one 12 rfl (by kernel_rfl) ?_
      have hcall := rnum_spec hS.own2 hV (rsq_left (ops4 (begunSt bs 2)) hl4 1)
      refine O_call rfl rfl rfl hcall (fun x w ⟨hz, v, b, hV, hk⟩ => ?_)
      subst hz
      have hS := hS.after2 hk
      have hq7 := own_bytes2 hG7 hS.f2
      refine O_end ⟨⟨⟨_, hS⟩, hq7⟩, ?_⟩
      refine OA_one 14 rfl (by kernel_rfl) ?_
      have hcall := rnum_spec hS.own2 hV (rsq_left (ops4 (begunSt bs 2)) hl4 2)
      refine O_call rfl rfl rfl hcall (fun x w ⟨hz, v, b, hV, hk⟩ => ?_)
      subst hz
      have hS := hS.after2 hk
      have hq7 := own_bytes2 hG7 hS.f2
      refine O_end ⟨⟨⟨_, hS⟩, hq7⟩, ?_⟩
      refine OA_one 16 rfl (by kernel_rfl) ?_
      have hcall := rnum_spec hS.own2 hV (rsq_left (ops4 (begunSt bs 2)) hl4 3)
      refine O_call rfl rfl rfl hcall (fun x w ⟨hz, v, b, hV, hk⟩ => ?_)
      subst hz
      have hS := hS.after2 hk
      have hq7 := own_bytes2 hG7 hS.f2
      refine O_end ⟨⟨⟨_, hS⟩, hq7⟩, ?_⟩
      refine OA_take 17 rfl (by kernel_rfl) (by kernel_rfl) (by kernel_rfl) rfl rfl ⟨⟨_, hS⟩, hq7⟩ (fun w _ => E_build (c := (oread0 (begunSt bs 2)).cs.toArray) rfl (fun _ => by kernel_rfl)) ?_
      refine OA_one 19 rfl (by kernel_rfl) ?_
      refine O_storeAgg hS.f3 rfl rfl rfl rfl rfl (Nat.le_of_ble_eq_true rfl) (fun w hS => ?_)
      have hS := (St.whole (vs := (oread0 (begunSt bs 2)).cs) hS rfl).f3.f3.f3
      have hq7 := own_bytes2 hG7 hS.f2
      refine O_end ⟨⟨⟨_, hS⟩, hq7⟩, ?_⟩
      refine OA_end (by kernel_rfl) ?_
      exact ⟨_, _, _, ⟨rfl, rfl, rfl, rfl, trivial⟩, hV, hS.f2.drop⟩
  · skip
    rintro σ w ⟨v, b, b5, hs, hV, hS⟩
    refine W_weak [(2, .pointer (some ⟨b2, 0, none⟩)), (3, .int .i64 0), (4, .pointer (some ⟨r, 0, none⟩)), (5, .pointer (some ⟨b5, 0, none⟩))] hs ?_
    refine W_seq ?_
    refine W_region ?_
    refine O_move rfl rfl rfl ?_
    have hcall := rnum_spec hS.own2 hV (rsq_left (ops4 (begunSt bs 2)) hl4 4)
    refine O_call rfl rfl rfl hcall (fun x w ⟨hz, v, b, hV, hk⟩ => ?_)
    subst hz
    have hS := hS.after2 hk
    have hV : RView v b (odone (begunSt bs 2)) G := hV
    refine O_assign rfl rfl rfl ?_
    refine O_end ?_
    refine W_seq ?_
    refine W_region ?_
    refine O_move rfl rfl rfl ?_
    refine O_bin rfl rfl rfl rfl rfl ?_
    refine O_fieldAddr rfl rfl rfl ?_
    refine O_store hS.f2 rfl rfl rfl rfl (Nat.le_of_ble_eq_true rfl) (fun w hS => ?_)
    have hS : St w0 [] [ocell b5 (oread (begunSt bs 2)), rcell r v b, G, ocell b2 opZ] w := hS
    have hS := hS.f1.f2.f1
    refine O_end ?_
    refine W_seq ?_
    refine W_seq ?_
    refine W_region ?_
    refine O_move rfl rfl rfl ?_
    have hcall := whole_spec hS.own2 hV
    refine O_call rfl rfl rfl hcall (fun x w ⟨hz, hk⟩ => ?_)
    subst hz
    have hS := hS.after2 hk
    refine O_not rfl rfl rfl ?_
    refine O_move rfl rfl rfl ?_
    refine O_part 35 rfl (fun c35 => ?_) (fun c35 => ?_)
    · skip
      refine O_skip rfl rfl ?_
      refine O_skip rfl rfl ?_
      first | refine O_pick_true rfl rfl rfl rfl ?_ | refine O_pick_false rfl rfl rfl rfl ?_
      refine O_move rfl rfl rfl ?_
      refine O_know 39 (.bool true) rfl (congrArg Value.bool (rfl)) ?_
      refine O_skip rfl rfl ?_
      refine O_skip rfl rfl ?_
      refine O_skip rfl rfl ?_
      first | refine O_pick_true rfl rfl rfl rfl ?_ | refine O_pick_false rfl rfl rfl rfl ?_
      refine O_end ?_
      refine W_if_true rfl (rfl) ?_
      refine W_seq ?_
      refine W_region ?_
      refine O_build (c := opZ.cs.toArray) rfl rfl rfl (fun _ => by kernel_rfl) ?_
      refine O_storeAgg hS.f3 rfl rfl rfl rfl rfl (Nat.le_of_ble_eq_true rfl) (fun w hS => ?_)
      refine O_assign rfl rfl rfl ?_
      refine O_end ?_
      refine W_ret ⟨_, res_cell_tmp Tryd.results9 rfl rfl rfl rfl (hS.rdAll), ?_⟩
      have hd : odec (begunSt bs 2) = false := by
        unfold odec
        first
          | (have h := c43; rw [Bool.not_eq_true'] at h; rw [h, Bool.and_false, Bool.and_false])
          | (have h := of_decide_eq_true c39; rw [decide_eq_false (show ¬ ocommit (begunSt bs 2) ≤ 1 by unfold ocommit; omega), Bool.false_and, Bool.and_false])
          | (have h := c35; rw [Bool.not_eq_true'] at h; rw [h, Bool.false_and])
      rw [hd]
      exact ⟨rfl, hS.bare⟩
    · skip
      refine O_move rfl rfl rfl ?_
      refine O_bin rfl rfl rfl rfl rfl ?_
      first | refine O_pick_true rfl rfl rfl rfl ?_ | refine O_pick_false rfl rfl rfl rfl ?_
      refine O_move rfl rfl rfl ?_
      refine O_part 39 rfl (fun c39 => ?_) (fun c39 => ?_)
      · skip
        refine O_skip rfl rfl ?_
        refine O_skip rfl rfl ?_
        refine O_skip rfl rfl ?_
        first | refine O_pick_true rfl rfl rfl rfl ?_ | refine O_pick_false rfl rfl rfl rfl ?_
        refine O_end ?_
        refine W_if_true rfl (rfl) ?_
        refine W_seq ?_
        refine W_region ?_
        refine O_build (c := opZ.cs.toArray) rfl rfl rfl (fun _ => by kernel_rfl) ?_
        refine O_storeAgg hS.f3 rfl rfl rfl rfl rfl (Nat.le_of_ble_eq_true rfl) (fun w hS => ?_)
        refine O_assign rfl rfl rfl ?_
        refine O_end ?_
        refine W_ret ⟨_, res_cell_tmp Tryd.results9 rfl rfl rfl rfl (hS.rdAll), ?_⟩
        have hd : odec (begunSt bs 2) = false := by
          unfold odec
          first
            | (have h := c43; rw [Bool.not_eq_true'] at h; rw [h, Bool.and_false, Bool.and_false])
            | (have h := of_decide_eq_true c39; rw [decide_eq_false (show ¬ ocommit (begunSt bs 2) ≤ 1 by unfold ocommit; omega), Bool.false_and, Bool.and_false])
            | (have h := c35; rw [Bool.not_eq_true'] at h; rw [h, Bool.false_and])
        rw [hd]
        exact ⟨rfl, hS.bare⟩
      · skip
        refine O_loadAgg (vs := (oread (begunSt bs 2)).cs) rfl rfl rfl rfl rfl hS.f2.rdAll ?_
        have hcall := isOp_spec (w0 := w) (o := oread (begunSt bs 2))
        refine O_call rfl rfl rfl hcall (fun r w ⟨hz, hk⟩ => ?_)
        subst hz
        have hS := hS.after0 hk
        refine O_not rfl rfl rfl ?_
        first | refine O_pick_true rfl rfl rfl rfl ?_ | refine O_pick_false rfl rfl rfl rfl ?_
        refine O_end ?_
        refine W_if rfl (fun c43 => ?_) (fun c43 => ?_)
        · skip
          refine W_seq ?_
          refine W_region ?_
          refine O_build (c := opZ.cs.toArray) rfl rfl rfl (fun _ => by kernel_rfl) ?_
          refine O_storeAgg hS.f3 rfl rfl rfl rfl rfl (Nat.le_of_ble_eq_true rfl) (fun w hS => ?_)
          refine O_assign rfl rfl rfl ?_
          refine O_end ?_
          refine W_ret ⟨_, res_cell_tmp Tryd.results9 rfl rfl rfl rfl (hS.rdAll), ?_⟩
          have hd : odec (begunSt bs 2) = false := by
            unfold odec
            first
              | (have h := c43; rw [Bool.not_eq_true'] at h; rw [h, Bool.and_false, Bool.and_false])
              | (have h := of_decide_eq_true c39; rw [decide_eq_false (show ¬ ocommit (begunSt bs 2) ≤ 1 by unfold ocommit; omega), Bool.false_and, Bool.and_false])
              | (have h := c35; rw [Bool.not_eq_true'] at h; rw [h, Bool.false_and])
          rw [hd]
          exact ⟨rfl, hS.bare⟩
        · skip
          refine W_skip ?_
          refine W_seq ?_
          refine W_region ?_
          refine O_loadAgg (vs := (oread (begunSt bs 2)).cs) rfl rfl rfl rfl rfl hS.f2.rdAll ?_
          refine O_storeAgg hS.f3 rfl rfl rfl rfl rfl (Nat.le_of_ble_eq_true rfl) (fun w hS => ?_)
          refine O_assign rfl rfl rfl ?_
          refine O_end ?_
          refine W_ret ⟨_, res_cell_tmp Tryd.results9 rfl rfl rfl rfl (hS.rdAll), ?_⟩
          have hd : odec (begunSt bs 2) = true := by
            unfold odec
            simp only [Bool.and_eq_true, decide_eq_true_eq]
            exact ⟨by simpa using c35, by unfold ocommit; have := of_decide_eq_false c39; omega, by simpa using c43⟩
          rw [hd]
          exact ⟨rfl, hS.bare⟩

end Go.Proofs.YtaglgnjamihdnaaDoor.R
