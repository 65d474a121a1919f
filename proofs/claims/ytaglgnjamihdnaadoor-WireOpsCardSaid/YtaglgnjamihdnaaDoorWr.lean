/- Bytes as a mark, by the program and by the document. -/
import Derived.Test.YtaglgnjamihdnaaDoorWq
namespace Go.Proofs.YtaglgnjamihdnaaDoor.R
open Go Go.RowKit Go.Proofs
set_option linter.unusedVariables false
set_option linter.unusedSimpArgs false
set_option maxRecDepth 20000

structure Mkr where
  k : Int
  p : Int
  e : Int
  t : Int
abbrev Mkr.cs (m : Mkr) : List Value := [iv m.k, iv m.p, iv m.e, iv m.t]
abbrev kcell (b : Nat) (m : Mkr) : List Chunk := [(b, .cells m.cs.toArray 35 (0, 0))]
def mkZ : Mkr := ⟨0, 0, 0, 0⟩
abbrev Mkr.ok (m : Mkr) : Bool := markok m.k m.p m.e m.t
def Mkr.bytes (m : Mkr) : List UInt8 := encs [3, m.k, m.p, m.e, m.t]
def mread (s : RSt) : Mkr := ⟨((rnum s).1 : Nat), ((rnum (rsq s 1)).1 : Nat), ((rnum (rsq s 2)).1 : Nat), ((rnum (rsq s 3)).1 : Nat)⟩
def mdec (s : RSt) : Bool := decide (rsq s 4 = some []) && (mread s).ok
def mdec2 (bs : List UInt8) : Bool := decide (rsq (begunSt bs 3) 4 = some []) && ((mread (begunSt bs 3)).ok && decide ((mread (begunSt bs 3)).bytes = bs))

theorem decodeMark2_spec {w0 : World} {A : Option Addr} {bs : List UInt8} {c : Nat} (hr : Rd w0 A (bvs bs)) (hb : bs.length ≤ 1000000000) :
    Calls Tryd.prog 14 #[.slice A bs.length c] w0 (Ret fun x w => x = .tuple #[.agg (if mdec (begunSt bs 3) then mread (begunSt bs 3) else mkZ).cs.toArray, .int .i64 (if mdec (begunSt bs 3) then 0 else 2)] ∧ St w0 [] [] w) := by
  have hS : Own [] w0 := St.start w0
  have hl := begun_left bs 3 hb
  refine calls_enterC (l := [.slice A bs.length c]) (fn := Tryd.f14) Tryd.func14 rfl Tryd.ntmps14 (Nat.le_of_ble_eq_true rfl) ?_
  refine W_seq ?_
  refine W_region ?_
  refine O_alloc hS rfl rfl (fun b2 w hS => ?_)
  refine O_assign rfl rfl rfl ?_
  refine O_end ?_
  refine W_seq ?_
  refine W_region ?_
  refine O_move rfl rfl rfl ?_
  have hcall := begun_spec (c := c) (k := 3) (hS.rd hr (Apart.of_nil _ _)) hb
  refine O_call rfl rfl rfl hcall (fun x w ⟨r, v, b, G, hz, hV, hk⟩ => ?_)
  subst hz
  have hS := hS.after0 hk
  refine O_assign rfl rfl rfl ?_
  refine O_end ?_
  refine W_seq ?_
  refine W_region ?_
  refine O_move rfl rfl rfl ?_
  have hcalla := rnum_spec hS.own2 hV (rsq_left (begunSt bs 3) hl 0)
  refine O_call rfl rfl rfl hcalla (fun x w ⟨hz, v, b, hV, hk⟩ => ?_)
  subst hz
  have hS := hS.after2 hk
  refine O_move rfl rfl rfl ?_
  have hcallb := rnum_spec hS.own2 hV (rsq_left (begunSt bs 3) hl 1)
  refine O_call rfl rfl rfl hcallb (fun x w ⟨hz, v, b, hV, hk⟩ => ?_)
  subst hz
  have hS := hS.after2 hk
  refine O_move rfl rfl rfl ?_
  have hcallc := rnum_spec hS.own2 hV (rsq_left (begunSt bs 3) hl 2)
  refine O_call rfl rfl rfl hcallc (fun x w ⟨hz, v, b, hV, hk⟩ => ?_)
  subst hz
  have hS := hS.after2 hk
  refine O_move rfl rfl rfl ?_
  have hcalld := rnum_spec hS.own2 hV (rsq_left (begunSt bs 3) hl 3)
  refine O_call rfl rfl rfl hcalld (fun x w ⟨hz, v, b, hV, hk⟩ => ?_)
  subst hz
  have hS := hS.after2 hk
  have hV : RView v b (rsq (begunSt bs 3) 4) G := hV
  refine O_build (c := (mread (begunSt bs 3)).cs.toArray) rfl rfl rfl (fun _ => by kernel_rfl) ?_
  refine O_alloc hS rfl rfl (fun b5 w hS => ?_)
  refine O_storeAgg hS rfl rfl rfl rfl rfl (Nat.le_of_ble_eq_true rfl) (fun w hS => ?_)
  have hS := (St.whole (vs := (mread (begunSt bs 3)).cs) hS rfl).f1.f2.f1
  refine O_end ?_
  refine W_seq ?_
  refine W_seq ?_
  refine W_region ?_
  refine O_move rfl rfl rfl ?_
  have hcall := whole_spec hS.own2 hV
  refine O_call rfl rfl rfl hcall (fun x w ⟨hz, hk⟩ => ?_)
  subst hz
  have hS := hS.after2 hk
  refine O_not rfl rfl rfl ?_
  refine O_move rfl rfl rfl ?_
  refine O_part 20 rfl (fun c20 => ?_) (fun c20 => ?_)
  · skip
    refine O_skip rfl rfl ?_
    refine O_skip rfl rfl ?_
    refine O_skip rfl rfl ?_
    first | refine O_pick_true rfl rfl rfl rfl ?_ | refine O_pick_false rfl rfl rfl rfl ?_
    refine O_end ?_
    refine W_if_true rfl (rfl) ?_
    refine W_seq ?_
    refine W_region ?_
    refine O_build (c := mkZ.cs.toArray) rfl rfl rfl (fun _ => by kernel_rfl) ?_
    refine O_storeAgg hS.f3 rfl rfl rfl rfl rfl (Nat.le_of_ble_eq_true rfl) (fun w hS => ?_)
    refine O_assign rfl rfl rfl ?_
    refine O_end ?_
    refine W_ret ⟨_, res_cell_tmp Tryd.results14 rfl rfl rfl rfl (hS.rdAll), ?_⟩
    have hd : mdec (begunSt bs 3) = false := by
      unfold mdec
      first
        | (have h := c24; rw [Bool.not_eq_true'] at h; unfold Mkr.ok; rw [h, Bool.and_false])
        | (have h := c20; rw [Bool.not_eq_true'] at h; rw [h, Bool.false_and])
    rw [hd]
    exact ⟨rfl, hS.bare⟩
  · skip
    refine O_loadAgg (vs := (mread (begunSt bs 3)).cs) rfl rfl rfl rfl rfl hS.f2.rdAll ?_
    have hcall := isMark_spec (w0 := w) (k := (mread (begunSt bs 3)).k) (p := (mread (begunSt bs 3)).p) (e := (mread (begunSt bs 3)).e) (t := (mread (begunSt bs 3)).t)
    refine O_call rfl rfl rfl hcall (fun r w ⟨hz, hk⟩ => ?_)
    subst hz
    have hS := hS.after0 hk
    refine O_not rfl rfl rfl ?_
    first | refine O_pick_true rfl rfl rfl rfl ?_ | refine O_pick_false rfl rfl rfl rfl ?_
    refine O_end ?_
    refine W_if rfl (fun c24 => ?_) (fun c24 => ?_)
    · skip
      refine W_seq ?_
      refine W_region ?_
      refine O_build (c := mkZ.cs.toArray) rfl rfl rfl (fun _ => by kernel_rfl) ?_
      refine O_storeAgg hS.f3 rfl rfl rfl rfl rfl (Nat.le_of_ble_eq_true rfl) (fun w hS => ?_)
      refine O_assign rfl rfl rfl ?_
      refine O_end ?_
      refine W_ret ⟨_, res_cell_tmp Tryd.results14 rfl rfl rfl rfl (hS.rdAll), ?_⟩
      have hd : mdec (begunSt bs 3) = false := by
        unfold mdec
        first
          | (have h := c24; rw [Bool.not_eq_true'] at h; unfold Mkr.ok; rw [h, Bool.and_false])
          | (have h := c20; rw [Bool.not_eq_true'] at h; rw [h, Bool.false_and])
      rw [hd]
      exact ⟨rfl, hS.bare⟩
    · skip
      refine W_skip ?_
      refine W_seq ?_
      refine W_region ?_
      refine O_loadAgg (vs := (mread (begunSt bs 3)).cs) rfl rfl rfl rfl rfl hS.f2.rdAll ?_
      refine O_storeAgg hS.f3 rfl rfl rfl rfl rfl (Nat.le_of_ble_eq_true rfl) (fun w hS => ?_)
      refine O_assign rfl rfl rfl ?_
      refine O_end ?_
      refine W_ret ⟨_, res_cell_tmp Tryd.results14 rfl rfl rfl rfl (hS.rdAll), ?_⟩
      have hd : mdec (begunSt bs 3) = true := by
        unfold mdec
        simp only [Bool.and_eq_true, decide_eq_true_eq]
        exact ⟨by simpa using c20, by simpa using c24⟩
      rw [hd]
      exact ⟨rfl, hS.bare⟩

set_option maxHeartbeats 1000000 in
theorem refDecodeMark_spec {w0 : World} {A : Option Addr} {bs : List UInt8} {c : Nat} (hr : Rd w0 A (bvs bs)) (hc : bs.length ≤ c) (hm : c ≤ maxLen) (hb : bs.length ≤ 1000000000) :
    Calls Tryd.prog 15 #[.slice A bs.length c] w0 (Ret fun x w => x = .tuple #[.agg (if mdec2 bs then mread (begunSt bs 3) else mkZ).cs.toArray, .int .i64 (if mdec2 bs then 0 else 2)] ∧ St w0 [] [] w) := by
  obtain ⟨G, hS, hVw, hGw⟩ := adopt hr hc hm
  have hV : RView (.slice A bs.length c) false (some bs) G := ⟨rfl, hVw⟩
  have hview := hVw
  obtain ⟨_, _, hq, _, _, hrdG⟩ := hVw
  cases hq
  have hl := begun_left bs 3 hb
  refine calls_enterC (l := [.slice A bs.length c]) (fn := Tryd.f15) Tryd.func15 rfl Tryd.ntmps15 (Nat.le_of_ble_eq_true rfl) ?_
  refine W_seq ?_
  refine W_region ?_
  refine O_alloc hS rfl rfl (fun b2 w hS => ?_)
  refine O_assign rfl rfl rfl ?_
  refine O_end ?_
  refine W_seq ?_
  refine W_region ?_
  refine O_move rfl rfl rfl ?_
  refine O_build (c := #[.slice A bs.length c, .bool false]) rfl rfl rfl (fun _ => by kernel_rfl) ?_
  refine O_box hS rfl rfl rfl (fun q w hS => ?_)
  have hS := hS.f2.f1
  refine O_assign rfl rfl rfl ?_
  refine O_end ?_
  refine W_cut (fun σ w => ∃ v b, sub σ [(0, .slice A bs.length c), (2, .pointer (some ⟨b2, 0, none⟩)), (3, .int .i64 0), (4, .pointer (some ⟨q, 0, none⟩))] ∧ RView v b (begunSt bs 3) G ∧ St w0 (idsOf [G]) [qcell q v b, G, kcell b2 mkZ] w) ?_ ?_
  · skip
    refine W_seq ?_
    refine W_region ?_
    refine O_move rfl rfl rfl ?_
    have hcall := qnum_spec hS.own2 hV (show (RSt.left (some bs)).length ≤ 1000000000 from hb)
    refine O_call rfl rfl rfl hcall (fun x w ⟨hz, v, b, hV, Gs, hk⟩ => ?_)
    subst hz
    have hS := (hS.after2 (packed2 hk)).f2.drop
    refine O_bin rfl rfl rfl rfl rfl ?_
    refine O_end ?_
    refine W_if rfl (fun c13 => ?_) (fun c13 => ?_)
    · skip
      refine W_region ?_
      refine O_move rfl rfl rfl ?_
      have hcall := qbad_spec hS.own2
      refine O_call rfl rfl rfl hcall (fun x w ⟨hz, hk⟩ => ?_)
      subst hz
      have hS := hS.after2 hk
      refine O_end ?_
      have he : begunSt bs 3 = none := by
        unfold begunSt
        rw [if_neg (by simpa using c13)]
      rw [he]
      exact ⟨_, _, ⟨rfl, rfl, rfl, rfl, trivial⟩, RView.bad G, hS⟩
    · skip
      refine W_skip ?_
      have he : begunSt bs 3 = (rnum (some bs)).2 := by
        unfold begunSt
        rw [if_pos (by simpa using c13)]
      rw [he]
      exact ⟨_, _, ⟨rfl, rfl, rfl, rfl, trivial⟩, hV, hS⟩
  · skip
    rintro σ w ⟨v, b, hs, hV, hS⟩
    refine W_weak [(0, .slice A bs.length c), (2, .pointer (some ⟨b2, 0, none⟩)), (3, .int .i64 0), (4, .pointer (some ⟨q, 0, none⟩))] hs ?_
    refine W_seq ?_
    refine W_region ?_
    refine O_move rfl rfl rfl ?_
    have hcall := qnum_spec hS.own2 hV (hl)
    refine O_call rfl rfl rfl hcall (fun x w ⟨hz, v, b, hV, Gs, hk⟩ => ?_)
    subst hz
    have hS := (hS.after2 (packed2 hk)).f2.drop
    refine O_build (c := (Mkr.mk ((rnum (begunSt bs 3)).1 : Nat) 0 0 0).cs.toArray) rfl rfl rfl (fun _ => by kernel_rfl) ?_
    refine O_alloc hS rfl rfl (fun b5 w hS => ?_)
    refine O_storeAgg hS rfl rfl rfl rfl rfl (Nat.le_of_ble_eq_true rfl) (fun w hS => ?_)
    have hS := (St.whole (vs := (Mkr.mk ((rnum (begunSt bs 3)).1 : Nat) 0 0 0).cs) hS rfl).f1.f2.f1
    refine O_end ?_
    refine W_seq ?_
    refine W_region ?_
    refine O_move rfl rfl rfl ?_
    have hcall := qnum_spec hS.own2 hV (rsq_left (begunSt bs 3) hl 1)
    refine O_call rfl rfl rfl hcall (fun x w ⟨hz, v, b, hV, Gs, hk⟩ => ?_)
    subst hz
    have hS := (hS.after2 (packed2 hk)).f2.drop
    refine O_fieldAddr rfl rfl rfl ?_
    refine O_store hS.f2 rfl rfl rfl rfl (by simp) (fun w hS => ?_)
    have hS := hS.f1.f2.f1
    refine O_end ?_
    refine W_seq ?_
    refine W_region ?_
    refine O_move rfl rfl rfl ?_
    have hcall := qnum_spec hS.own2 hV (rsq_left (begunSt bs 3) hl 2)
    refine O_call rfl rfl rfl hcall (fun x w ⟨hz, v, b, hV, Gs, hk⟩ => ?_)
    subst hz
    have hS := (hS.after2 (packed2 hk)).f2.drop
    refine O_fieldAddr rfl rfl rfl ?_
    refine O_store hS.f2 rfl rfl rfl rfl (by simp) (fun w hS => ?_)
    have hS := hS.f1.f2.f1
    refine O_end ?_
    refine W_seq ?_
    refine W_region ?_
    refine O_move rfl rfl rfl ?_
    have hcall := qnum_spec hS.own2 hV (rsq_left (begunSt bs 3) hl 3)
    refine O_call rfl rfl rfl hcall (fun x w ⟨hz, v, b, hV, Gs, hk⟩ => ?_)
    subst hz
    have hS := (hS.after2 (packed2 hk)).f2.drop
    have hV : RView v b (rsq (begunSt bs 3) 4) G := hV
    refine O_fieldAddr rfl rfl rfl ?_
    refine O_store hS.f2 rfl rfl rfl rfl (by simp) (fun w hS => ?_)
    have hS : St w0 (idsOf [G]) [kcell b5 (mread (begunSt bs 3)), qcell q v b, G, kcell b2 mkZ] w := hS
    have hS := hS.f1.f2.f1
    refine O_end ?_
    refine W_seq ?_
    refine W_region ?_
    refine O_loadAgg (vs := (mread (begunSt bs 3)).cs) rfl rfl rfl rfl rfl hS.f2.rdAll ?_
    have hcall := refEncodeMark_spec (w0 := w) (k := (mread (begunSt bs 3)).k) (p := (mread (begunSt bs 3)).p) (e := (mread (begunSt bs 3)).e) (t := (mread (begunSt bs 3)).t)
    refine O_call rfl rfl rfl hcall (fun x w ⟨ve, Ge, hz, hGe, hk⟩ => ?_)
    subst hz
    have hS := (hS.after0 hk).f4.f4.f4.f4
    refine O_move rfl rfl rfl ?_
    refine O_extract rfl rfl rfl rfl ?_
    refine O_extract rfl rfl rfl rfl ?_
    refine O_assign rfl rfl rfl ?_
    refine O_assign rfl rfl rfl ?_
    refine O_end ?_
    refine W_seq ?_
    refine W_seq ?_
    refine W_region ?_
    refine O_move rfl rfl rfl ?_
    have hcall := qwhole_spec hS.own2 hV
    refine O_call rfl rfl rfl hcall (fun x w ⟨hz, hk⟩ => ?_)
    subst hz
    have hS := hS.after2 hk
    refine O_not rfl rfl rfl ?_
    refine O_move rfl rfl rfl ?_
    refine O_part 36 rfl (fun c36 => ?_) (fun c36 => ?_)
    · skip
      refine O_skip rfl rfl ?_
      refine O_skip rfl rfl ?_
      first | refine O_pick_true rfl rfl rfl rfl ?_ | refine O_pick_false rfl rfl rfl rfl ?_
      refine O_move rfl rfl rfl ?_
      refine O_know 40 (.bool true) rfl (congrArg Value.bool (rfl)) ?_
      refine O_skip rfl rfl ?_
      refine O_skip rfl rfl ?_
      refine O_skip rfl rfl ?_
      refine O_skip rfl rfl ?_
      refine O_skip rfl rfl ?_
      first | refine O_pick_true rfl rfl rfl rfl ?_ | refine O_pick_false rfl rfl rfl rfl ?_
      refine O_end ?_
      refine W_if_true rfl (rfl) ?_
      refine W_seq ?_
      refine W_region ?_
      refine O_build (c := mkZ.cs.toArray) rfl rfl rfl (fun _ => by kernel_rfl) ?_
      refine O_storeAgg hS.f3 rfl rfl rfl rfl rfl (Nat.le_of_ble_eq_true rfl) (fun w hS => ?_)
      refine O_assign rfl rfl rfl ?_
      refine O_end ?_
      refine W_ret ⟨_, res_cell_tmp Tryd.results15 rfl rfl rfl rfl (hS.rdAll), ?_⟩
      have hd : mdec2 bs = false := by
        unfold mdec2 Mkr.bytes
        first
          | (have h := c46; rw [Bool.not_eq_true'] at h; rw [h, Bool.and_false, Bool.and_false])
          | (have h := c40
             cases hop : markok (mread (begunSt bs 3)).k (mread (begunSt bs 3)).p (mread (begunSt bs 3)).e (mread (begunSt bs 3)).t with
             | true => rw [hop] at h; exact absurd h (by decide)
             | false => unfold Mkr.ok; rw [hop, Bool.false_and, Bool.and_false])
          | (have h := c36; rw [Bool.not_eq_true'] at h; rw [h, Bool.false_and])
      rw [hd]
      exact ⟨rfl, (St.unadopt hS.f2 hGw).bare⟩
    · skip
      refine O_move rfl rfl rfl ?_
      refine O_bin rfl rfl rfl rfl rfl ?_
      first | refine O_pick_true rfl rfl rfl rfl ?_ | refine O_pick_false rfl rfl rfl rfl ?_
      refine O_move rfl rfl rfl ?_
      refine O_part 40 rfl (fun c40 => ?_) (fun c40 => ?_)
      · skip
        refine O_skip rfl rfl ?_
        refine O_skip rfl rfl ?_
        refine O_skip rfl rfl ?_
        refine O_skip rfl rfl ?_
        refine O_skip rfl rfl ?_
        first | refine O_pick_true rfl rfl rfl rfl ?_ | refine O_pick_false rfl rfl rfl rfl ?_
        refine O_end ?_
        refine W_if_true rfl (rfl) ?_
        refine W_seq ?_
        refine W_region ?_
        refine O_build (c := mkZ.cs.toArray) rfl rfl rfl (fun _ => by kernel_rfl) ?_
        refine O_storeAgg hS.f3 rfl rfl rfl rfl rfl (Nat.le_of_ble_eq_true rfl) (fun w hS => ?_)
        refine O_assign rfl rfl rfl ?_
        refine O_end ?_
        refine W_ret ⟨_, res_cell_tmp Tryd.results15 rfl rfl rfl rfl (hS.rdAll), ?_⟩
        have hd : mdec2 bs = false := by
          unfold mdec2 Mkr.bytes
          first
            | (have h := c46; rw [Bool.not_eq_true'] at h; rw [h, Bool.and_false, Bool.and_false])
            | (have h := c40
               cases hop : markok (mread (begunSt bs 3)).k (mread (begunSt bs 3)).p (mread (begunSt bs 3)).e (mread (begunSt bs 3)).t with
               | true => rw [hop] at h; exact absurd h (by decide)
               | false => unfold Mkr.ok; rw [hop, Bool.false_and, Bool.and_false])
            | (have h := c36; rw [Bool.not_eq_true'] at h; rw [h, Bool.false_and])
        rw [hd]
        exact ⟨rfl, (St.unadopt hS.f2 hGw).bare⟩
      · skip
        have hok : (mread (begunSt bs 3)).ok = true := by
          have := c40
          cases h : markok (mread (begunSt bs 3)).k (mread (begunSt bs 3)).p (mread (begunSt bs 3)).e (mread (begunSt bs 3)).t with
          | true => exact h
          | false => rw [h] at this; exact absurd this (by decide)
        have hok' : markok (mread (begunSt bs 3)).k (mread (begunSt bs 3)).p (mread (begunSt bs 3)).e (mread (begunSt bs 3)).t = true := hok
        rw [hok', if_pos rfl] at hGe
        obtain ⟨Ae, ce, rfl, _⟩ := hGe.form
        have hne := own_bytes2 hGe hS.f4
        refine O_move rfl rfl rfl ?_
        refine O_str rfl rfl rfl hne ?_
        refine O_move rfl rfl rfl ?_
        refine O_str rfl rfl rfl (hrdG _ _ _ _ hS.f1).1 ?_
        refine O_neq_str rfl rfl rfl rfl (strOf_eq _ _) ?_
        first | refine O_pick_true rfl rfl rfl rfl ?_ | refine O_pick_false rfl rfl rfl rfl ?_
        refine O_end ?_
        refine W_if rfl (fun c46 => ?_) (fun c46 => ?_)
        · skip
          refine W_seq ?_
          refine W_region ?_
          refine O_build (c := mkZ.cs.toArray) rfl rfl rfl (fun _ => by kernel_rfl) ?_
          refine O_storeAgg hS.f3 rfl rfl rfl rfl rfl (Nat.le_of_ble_eq_true rfl) (fun w hS => ?_)
          refine O_assign rfl rfl rfl ?_
          refine O_end ?_
          refine W_ret ⟨_, res_cell_tmp Tryd.results15 rfl rfl rfl rfl (hS.rdAll), ?_⟩
          have hd : mdec2 bs = false := by
            unfold mdec2 Mkr.bytes
            first
              | (have h := c46; rw [Bool.not_eq_true'] at h; rw [h, Bool.and_false, Bool.and_false])
              | (have h := c40
                 cases hop : markok (mread (begunSt bs 3)).k (mread (begunSt bs 3)).p (mread (begunSt bs 3)).e (mread (begunSt bs 3)).t with
                 | true => rw [hop] at h; exact absurd h (by decide)
                 | false => unfold Mkr.ok; rw [hop, Bool.false_and, Bool.and_false])
              | (have h := c36; rw [Bool.not_eq_true'] at h; rw [h, Bool.false_and])
          rw [hd]
          exact ⟨rfl, (St.unadopt hS.f2 hGw).bare⟩
        · skip
          refine W_skip ?_
          refine W_seq ?_
          refine W_region ?_
          refine O_loadAgg (vs := (mread (begunSt bs 3)).cs) rfl rfl rfl rfl rfl hS.f2.rdAll ?_
          refine O_storeAgg hS.f3 rfl rfl rfl rfl rfl (Nat.le_of_ble_eq_true rfl) (fun w hS => ?_)
          refine O_assign rfl rfl rfl ?_
          refine O_end ?_
          refine W_ret ⟨_, res_cell_tmp Tryd.results15 rfl rfl rfl rfl (hS.rdAll), ?_⟩
          have hd : mdec2 bs = true := by
            unfold mdec2 Mkr.bytes
            simp only [Bool.and_eq_true, decide_eq_true_eq]
            exact ⟨by simpa using c36, hok, by simpa using c46⟩
          rw [hd]
          exact ⟨rfl, (St.unadopt hS.f2 hGw).bare⟩

end Go.Proofs.YtaglgnjamihdnaaDoor.R
