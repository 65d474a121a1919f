/- What is sealed of a vote and of a message: what the code lays, and what the document lays. -/
import Derived.Test.YtaglgnjamihdnaaWb
import Derived.Test.YtaglgnjamihdnaaOb
import Derived.Test.YtaglgnjamihdnaaOc
namespace Go.Proofs.Ytaglgnjamihdnaa.R
open Go Go.RowKit Go.Proofs
set_option linter.unusedVariables false
set_option linter.unusedSimpArgs false
set_option maxRecDepth 20000

structure Vt where
  k : Int
  s : Int
  v : Int
  sum : List UInt8
  f : Int
  tag : List UInt8
def Vt.ok (x : Vt) : Prop := x.sum.length = 32 ∧ x.tag.length = 32
def Vt.cs (x : Vt) : List Value := iv x.k :: iv x.s :: iv x.v :: (bvs x.sum ++ iv x.f :: bvs x.tag)
/-- What is laid of a vote, and what of it is sealed. -/
def Vt.layb (x : Vt) : List UInt8 := encs [x.k, x.s, x.v] ++ (x.sum ++ (encs [x.f] ++ x.tag))
def Vt.sealb (x : Vt) : List UInt8 := encs [5, x.k, x.s, x.v] ++ (x.sum ++ encs [x.f])
def votesb (l : List Vt) : List UInt8 := encs [(l.length : Int)] ++ l.flatMap Vt.layb
theorem Vt.c0 (x : Vt) : x.cs.toArray[0]? = some (iv x.k) := by simp [Vt.cs]
theorem Vt.c1 (x : Vt) : x.cs.toArray[1]? = some (iv x.s) := by simp [Vt.cs]
theorem Vt.c2 (x : Vt) : x.cs.toArray[2]? = some (iv x.v) := by simp [Vt.cs]
theorem Vt.c35 (x : Vt) (h : x.ok) : x.cs.toArray[35]? = some (iv x.f) := by
  have h1 := h.1
  simp only [Vt.cs, List.getElem?_toArray, List.getElem?_cons_succ]
  rw [List.getElem?_append_right (by simp [h1])]
  simp [h1]
theorem Vt.len (x : Vt) (h : x.ok) : x.cs.length = 68 := by simp [Vt.cs, h.1, h.2]
theorem Vt.csum (x : Vt) (h : x.ok) : ∀ i v, (bvs x.sum)[i]? = some v → x.cs.toArray[0 + 3 + i]? = some v := fun i v hv => by
  have hi : i < (bvs x.sum).length := (List.getElem?_eq_some_iff.1 hv).1
  rw [show 0 + 3 + i = i + 1 + 1 + 1 by omega]
  simp only [Vt.cs, List.getElem?_toArray, List.getElem?_cons_succ]
  rw [List.getElem?_append_left hi]
  exact hv
theorem Vt.ctag (x : Vt) (h : x.ok) : ∀ i v, (bvs x.tag)[i]? = some v → x.cs.toArray[0 + 36 + i]? = some v := fun i v hv => by
  have h1 := h.1
  rw [show 0 + 36 + i = (i + 33) + 1 + 1 + 1 by omega]
  simp only [Vt.cs, List.getElem?_toArray, List.getElem?_cons_succ]
  rw [List.getElem?_append_right (by simp [h1])]
  simp only [bvs_length, h1]
  rw [show i + 33 - 32 = i + 1 by omega, List.getElem?_cons_succ]
  exact hv
theorem Vt.one (x : Vt) : x.cs.all (·.oneCell') = true := by
  simp only [Vt.cs, List.all_cons, List.all_append, Bool.and_eq_true, List.all_eq_true]
  exact ⟨rfl, rfl, rfl, fun v hv => bvs_one _ v hv, rfl, fun v hv => bvs_one _ v hv⟩
theorem layb_len (x : Vt) (h : x.ok) : x.layb.length ≤ 200 := by
  have h1 := encs_len [x.k, x.s, x.v]
  have h2 := encs_len [x.f]
  simp only [List.length_cons, List.length_nil] at h1 h2
  simp only [Vt.layb, List.length_append, h.1, h.2]
  omega

theorem layVote_spec {w0 : World} {a : Nat} {v0 : Value} {R0 : List Chunk} {bs : List UInt8} {x : Vt} (hS : Own [wcell a v0, R0] w0) (hR : BRow v0 bs R0) (hx : x.ok) (hb : bs.length ≤ 100000000) :
    Calls Try.prog 23 #[.pointer (some ⟨a, 0, none⟩), .agg x.cs.toArray] w0 (Ret fun r w => r = .tuple #[] ∧ ∃ v R, BRow v (bs ++ x.layb) R ∧ St w0 (idsOf [wcell a v0, R0]) [wcell a v, R] w) := by
  refine calls_enter (l := [.pointer (some ⟨a, 0, none⟩), .agg x.cs.toArray]) Try.func23 rfl Try.ntmps23 Try.results23 (Nat.le_of_ble_eq_true rfl) ?_
  refine W_seq ?_
  refine W_region ?_
  refine O_box hS rfl rfl rfl (fun b3 w hS => ?_)
  refine O_end ?_
  refine W_seq ?_
  refine W_region ?_
  refine O_move rfl rfl rfl ?_
  refine O_fieldAddr rfl rfl rfl ?_
  refine O_load rfl rfl rfl rfl (hS.cell x.c0) ?_
  refine O_fieldAddr rfl rfl rfl ?_
  refine O_load rfl rfl rfl rfl (hS.cell x.c1) ?_
  refine O_fieldAddr rfl rfl rfl ?_
  refine O_load rfl rfl rfl rfl (hS.cell x.c2) ?_
  refine O_lit hS rfl rfl rfl rfl rfl rfl (Nat.le_of_ble_eq_true rfl) (fun b11 w hS => ?_)
  have hn := hS.rdAll
  have ha := hS.apart_first (off := 0) (sp := none) (vs := [x.k, x.s, x.v].map iv)
  have hS := hS.f2.f3.f1
  have hcall := nums_spec (ns := [x.k, x.s, x.v]) (c := 3) hS.own2 hR hn (ha.sub' (by simp) (ids_sub (by simp))) (by simp; omega)
  refine O_call rfl rfl rfl hcall (fun r w ⟨hz, v1, R1, hR, hk⟩ => ?_)
  subst hz
  have hS := hS.after2 hk
  have hl3 := encs_len [x.k, x.s, x.v]
  have hl1 := encs_len [x.f]
  simp only [List.length_cons, List.length_nil] at hl3 hl1
  refine O_end ?_
  refine W_seq ?_
  refine W_region ?_
  refine O_move rfl rfl rfl ?_
  refine O_fieldAddr rfl rfl rfl ?_
  refine O_slice_array rfl rfl rfl ?_
  have hrs := hS.f3.rdCells (off := 0 + 3) (vs := bvs x.sum) (x.csum hx)
  have hcall := raw_spec (c := 32) hS.own2 hR hrs (by rw [List.length_append, hx.1]; omega)
  rw [hx.1] at hcall
  refine O_call rfl rfl rfl hcall (fun r w ⟨hz, v1, R1, hR, hk⟩ => ?_)
  subst hz
  have hS := hS.after2 hk
  refine O_end ?_
  refine W_seq ?_
  refine W_region ?_
  refine O_move rfl rfl rfl ?_
  refine O_fieldAddr rfl rfl rfl ?_
  refine O_load rfl rfl rfl rfl (hS.f3.cell (x.c35 hx)) ?_
  refine O_lit hS rfl rfl rfl rfl rfl rfl (Nat.le_of_ble_eq_true rfl) (fun b20 w hS => ?_)
  have hn := hS.rdAll
  have ha := hS.apart_first (off := 0) (sp := none) (vs := [x.f].map iv)
  have hS := hS.f1.f2.f1
  have hcall := nums_spec (ns := [x.f]) (c := 1) hS.own2 hR hn (ha.sub' (by simp) (ids_sub (by simp))) (by simp [hx.1]; omega)
  refine O_call rfl rfl rfl hcall (fun r w ⟨hz, v1, R1, hR, hk⟩ => ?_)
  subst hz
  have hS := hS.after2 hk
  refine O_end ?_
  refine W_region ?_
  refine O_move rfl rfl rfl ?_
  refine O_fieldAddr rfl rfl rfl ?_
  refine O_slice_array rfl rfl rfl ?_
  have hrs := hS.f4.rdCells (off := 0 + 36) (vs := bvs x.tag) (x.ctag hx)
  have hcall := raw_spec (c := 32) hS.own2 hR hrs (by simp only [List.length_append, hx.1, hx.2]; omega)
  rw [hx.2] at hcall
  refine O_call rfl rfl rfl hcall (fun r w ⟨hz, v1, R1, hR, hk⟩ => ?_)
  subst hz
  have hS := hS.after2 hk
  refine O_end ?_
  refine ⟨_, rfl, ?_⟩
  refine ⟨rfl, v1, R1, ?_, hS.keep2⟩
  have e : bs ++ x.layb = bs ++ encs [x.k, x.s, x.v] ++ x.sum ++ encs [x.f] ++ x.tag := by simp [Vt.layb, List.append_assoc]
  rw [e]
  exact hR

theorem votes_at : ∀ (l : List Vt), (∀ x ∈ l, x.ok) → ∀ (i : Nat) (hi : i < l.length), ((l.flatMap Vt.cs).drop (i * 68)).take 68 = l[i].cs
  | [], _, i, hi => by simp at hi
  | x :: r, h, 0, _ => by
    have hl := x.len (h x (by simp))
    rw [Nat.zero_mul, List.drop_zero, List.flatMap_cons, List.take_append_of_le_length (by omega), List.take_of_length_le (by omega)]
    rfl
  | x :: r, h, i + 1, hi => by
    have hl := x.len (h x (by simp))
    have ih := votes_at r (fun y hy => h y (by simp [hy])) i (by simpa using hi)
    rw [List.flatMap_cons, show (i + 1) * 68 = x.cs.length + i * 68 by rw [hl]; omega, List.drop_append]
    rw [List.drop_of_length_le (by omega), List.nil_append, show x.cs.length + i * 68 - x.cs.length = i * 68 by omega]
    exact ih
theorem votes_first (l : List Vt) (h : ∀ x ∈ l, x.ok) (i : Nat) (hi : i < l.length) : (l.flatMap Vt.cs)[i * 68]? = some (iv l[i].k) := by
  have h1 := votes_at l h i hi
  have h2 := congrArg (fun z => z[0]?) h1
  simp only [List.getElem?_take, List.getElem?_drop] at h2
  simpa [Vt.cs] using h2
theorem votes_rd {w : World} {ad : Addr} {l : List Vt} (hr : Rd w (some ad) (l.flatMap Vt.cs)) (h : ∀ x ∈ l, x.ok) (i : Nat) (hi : i < l.length) : Rd w (some (ad.add (i * 68))) l[i].cs := by
  have h1 := (hr.drop (i * 68)).take 68
  rw [votes_at l h i hi] at h1
  exact h1
theorem layb_take (l : List Vt) (h : ∀ x ∈ l, x.ok) (i : Nat) : ((l.take i).flatMap Vt.layb).length ≤ 200 * i := by
  induction i with
  | zero => simp
  | succ i ih =>
    by_cases hi : i < l.length
    · rw [List.take_succ_eq_append_getElem hi, List.flatMap_append, List.length_append]
      have := layb_len l[i] (h _ (List.getElem_mem hi))
      simp only [List.flatMap_cons, List.flatMap_nil, List.append_nil]
      omega
    · rw [List.take_of_length_le (by omega)] at ih ⊢
      omega

set_option maxHeartbeats 400000 in
theorem row_spec {w0 : World} {a : Nat} {v0 : Value} {R0 : List Chunk} {bs : List UInt8} {B : Option Addr} {l : List Vt} {d : Nat} (hS : Own [wcell a v0, R0] w0) (hR : BRow v0 bs R0) (hr : Rd w0 B (l.flatMap Vt.cs)) (ha : Apart B (l.flatMap Vt.cs) (idsOf [wcell a v0, R0])) (hx : ∀ x ∈ l, x.ok) (hl : l.length ≤ 1000) (hb : bs.length ≤ 1000000) :
    Calls Try.prog 22 #[.pointer (some ⟨a, 0, none⟩), .func (.func 23) #[] #[], .slice B l.length d] w0 (Ret fun r w => r = .tuple #[] ∧ ∃ v R, BRow v (bs ++ votesb l) R ∧ St w0 (idsOf [wcell a v0, R0]) [wcell a v, R] w) := by
  refine calls_enter (l := [.pointer (some ⟨a, 0, none⟩), .func (.func 23) #[] #[], .slice B l.length d]) Try.func22 rfl Try.ntmps22 Try.results22 (Nat.le_of_ble_eq_true rfl) ?_
  refine W_seq ?_
  refine W_region ?_
  refine O_move rfl rfl rfl ?_
  refine O_move rfl rfl rfl ?_
  refine O_len rfl rfl rfl rfl ?_
  refine O_lit hS rfl rfl rfl rfl rfl rfl (Nat.le_of_ble_eq_true rfl) (fun b11 w hS => ?_)
  have hn := hS.rdAll
  have ha1 := hS.apart_first (off := 0) (sp := none) (vs := [(l.length : Int)].map iv)
  have hS := hS.f1.f2.f1
  have hcall := nums_spec (ns := [(l.length : Int)]) (c := 1) hS.own2 hR hn (ha1.sub' (by simp) (ids_sub (by simp))) (by simp; omega)
  refine O_call rfl rfl rfl hcall (fun r w ⟨hz, v1, R1, hR, hk⟩ => ?_)
  subst hz
  have hS := (hS.after2 hk).keep2
  have hl1 := encs_len [(l.length : Int)]
  simp only [List.length_cons, List.length_nil] at hl1
  refine O_end ?_
  refine W_seq ?_
  refine W_region ?_
  refine O_move rfl rfl rfl ?_
  refine O_len rfl rfl rfl rfl ?_
  refine O_move rfl rfl rfl ?_
  refine O_end ?_
  refine W_block ?_
  refine W_loop (ι := Nat × Value × List Chunk) (fun i => [(0, .pointer (some ⟨a, 0, none⟩)), (1, .func (.func 23) #[] #[]), (13, .slice B l.length d), (14, .int .i64 (l.length : Nat)), (15, .int .i64 (i.1 : Nat))])
      (fun i w => i.1 ≤ l.length ∧ BRow i.2.1 (bs ++ encs [(l.length : Int)] ++ (l.take i.1).flatMap Vt.layb) i.2.2 ∧ St w0 (idsOf [wcell a v0, R0]) [wcell a i.2.1, i.2.2] w) (fun i => l.length - i.1) (0, v1, R1) ⟨rfl, rfl, rfl, rfl, rfl, trivial⟩ ⟨Nat.zero_le _, by simpa using hR, hS⟩ ?_
  rintro ⟨i, v1, R1⟩ w ⟨hi, hR, hS⟩
  dsimp only at hi hR hS ⊢
  refine W_seq ?_
  refine W_region ?_
  refine O_bin rfl rfl rfl rfl rfl ?_
  refine O_end ?_
  refine W_seq ?_
  refine W_if rfl (fun c16 => ?_) (fun c16 => ?_)
  · skip
    refine W_skip ?_
    refine W_seq ?_
    refine W_block ?_
    refine W_seq ?_
    refine W_region ?_
    have hlt : i < l.length := by have := of_decide_eq_true c16; omega
    have hxi := hx l[i] (List.getElem_mem hlt)
    have hrw := hS.rd hr ha
    have hlt2 := layb_take l hx i
    refine O_indexRd rfl rfl rfl rfl hrw (v := iv l[i].k) (votes_first l hx i hlt) hlt (fun ad hA hc => ?_)
    subst hA
    refine O_loadAgg rfl rfl rfl rfl (l[i].len hxi) (votes_rd hrw hx i hlt) ?_
    refine O_alloc hS rfl rfl (fun b7 w hS => ?_)
    refine O_storeAgg hS rfl rfl rfl l[i].one (l[i].len hxi) (Nat.le_of_ble_eq_true rfl) (fun w hS => ?_)
    have hS := St.whole (vs := l[i].cs) hS (by rw [l[i].len hxi]; rfl)
    refine O_end ?_
    refine W_region ?_
    refine O_move rfl rfl rfl ?_
    refine O_move rfl rfl rfl ?_
    refine O_loadAgg (vs := l[i].cs) rfl rfl rfl rfl (l[i].len hxi) hS.rdAll ?_
    have hS := hS.f1.f2.f1
    have hcall := layVote_spec hS.own2 hR hxi (by simp only [List.length_append]; omega)
    refine O_callv rfl rfl rfl rfl hcall (fun r w ⟨hz, v1, R1, hR, hk⟩ => ?_)
    subst hz
    have hS := (hS.after2 hk).keep2
    refine O_end ?_
    refine W_region ?_
    refine O_bin rfl rfl rfl rfl (i64_succ i (by omega)) ?_
    refine O_move rfl rfl rfl ?_
    refine O_end ?_
    refine ⟨(i + 1, v1, R1), ⟨rfl, rfl, rfl, rfl, rfl, trivial⟩, ⟨hlt, ?_, hS⟩, by dsimp only; omega⟩
    dsimp only
    have e : bs ++ encs [(l.length : Int)] ++ (l.take (i + 1)).flatMap Vt.layb = bs ++ encs [(l.length : Int)] ++ (l.take i).flatMap Vt.layb ++ l[i].layb := by
      rw [List.take_succ_eq_append_getElem hlt, List.flatMap_append]
      simp [List.append_assoc]
    rw [e]
    exact hR
  · skip
    refine W_exit ?_
    refine ⟨_, rfl, ?_⟩
    have hi' : i = l.length := by have := of_decide_eq_false c16; omega
    rw [hi', List.take_length] at hR
    refine ⟨rfl, v1, R1, ?_, hS⟩
    have e : bs ++ votesb l = bs ++ encs [(l.length : Int)] ++ l.flatMap Vt.layb := by simp [votesb, List.append_assoc]
    rw [e]
    exact hR

theorem voteBody_spec {w0 : World} {x : Vt} (hx : x.ok) : Calls Try.prog 9 #[.agg x.cs.toArray] w0 (Ret fun r w => ∃ G, BRow r x.sealb G ∧ St w0 [] [G] w) := by
  have hS : Own [] w0 := St.start w0
  refine calls_enter (l := [.agg x.cs.toArray]) Try.func9 rfl Try.ntmps9 Try.results9 (Nat.le_of_ble_eq_true rfl) ?_
  refine W_seq ?_
  refine W_region ?_
  refine O_box hS rfl rfl rfl (fun b1 w hS => ?_)
  refine O_assign rfl rfl rfl ?_
  refine O_end ?_
  refine W_seq ?_
  refine W_region ?_
  refine O_alloc hS rfl rfl (fun b3 w hS => ?_)
  have hS : St w0 [] (wcell b3 (.slice none 0 0) :: _) w := hS
  refine O_end ?_
  refine W_seq ?_
  refine W_region ?_
  refine O_fieldAddr rfl rfl rfl ?_
  refine O_load rfl rfl rfl rfl (hS.f1.cell x.c0) ?_
  refine O_fieldAddr rfl rfl rfl ?_
  refine O_load rfl rfl rfl rfl (hS.f1.cell x.c1) ?_
  refine O_fieldAddr rfl rfl rfl ?_
  refine O_load rfl rfl rfl rfl (hS.f1.cell x.c2) ?_
  refine O_lit hS rfl rfl rfl rfl rfl rfl (Nat.le_of_ble_eq_true rfl) (fun b10 w hS => ?_)
  have hn := hS.rdAll
  have ha := hS.apart_first (off := 0) (sp := none) (vs := [5, x.k, x.s, x.v].map iv)
  have hS := hS.f1.empty.f1
  have hcall := nums_spec (bs := []) (ns := [5, x.k, x.s, x.v]) (c := 4) hS.own2 (Row.nil _ _) hn (ha.sub' (by simp) (fun b hb => ids_sub (Gs' := [wcell b3 (.slice none 0 0)]) (by simp) b (by simpa [idsOf] using hb))) (by simp)
  refine O_call rfl rfl rfl hcall (fun r w ⟨hz, v1, R1, hR, hk⟩ => ?_)
  subst hz
  have hS := hS.after2 hk
  rw [List.nil_append] at hR
  have hl3 := encs_len [5, x.k, x.s, x.v]
  simp only [List.length_cons, List.length_nil] at hl3
  have hl1 := encs_len [x.f]
  simp only [List.length_cons, List.length_nil] at hl1
  refine O_end ?_
  refine W_seq ?_
  refine W_region ?_
  refine O_fieldAddr rfl rfl rfl ?_
  refine O_slice_array rfl rfl rfl ?_
  have hrs := hS.f3.rdCells (off := 0 + 3) (vs := bvs x.sum) (x.csum hx)
  have hcall := raw_spec (c := 32) hS.own2 hR hrs (by rw [hx.1]; omega)
  rw [hx.1] at hcall
  refine O_call rfl rfl rfl hcall (fun r w ⟨hz, v1, R1, hR, hk⟩ => ?_)
  subst hz
  have hS := hS.after2 hk
  refine O_end ?_
  refine W_seq ?_
  refine W_region ?_
  refine O_fieldAddr rfl rfl rfl ?_
  refine O_load rfl rfl rfl rfl (hS.f3.cell (x.c35 hx)) ?_
  refine O_lit hS rfl rfl rfl rfl rfl rfl (Nat.le_of_ble_eq_true rfl) (fun b17 w hS => ?_)
  have hn := hS.rdAll
  have ha := hS.apart_first (off := 0) (sp := none) (vs := [x.f].map iv)
  have hS := hS.f1.f2.f1
  have hcall := nums_spec (ns := [x.f]) (c := 1) hS.own2 hR hn (ha.sub' (by simp) (ids_sub (by simp))) (by simp [hx.1]; omega)
  refine O_call rfl rfl rfl hcall (fun r w ⟨hz, v1, R1, hR, hk⟩ => ?_)
  subst hz
  have hS := hS.after2 hk
  refine O_end ?_
  refine W_seq ?_
  refine W_region ?_
  have hcall := out_spec hS.own2 hR (by simp only [List.length_append, hx.1]; omega)
  refine O_call rfl rfl rfl hcall (fun r w ⟨G, hG, hk⟩ => ?_)
  have hS := (hS.after2 hk).keep1
  refine O_assign rfl rfl rfl ?_
  refine O_end ?_
  refine W_ret ⟨_, rfl, ?_⟩
  refine ⟨G, ?_, hS⟩
  have e : x.sealb = encs [5, x.k, x.s, x.v] ++ x.sum ++ encs [x.f] := by simp [Vt.sealb, List.append_assoc]
  rw [e]
  exact hG

structure Mg where
  k : Int
  f : Int
  to : Int
  s : Int
  v : Int
  A : Option Addr
  x : List UInt8
  c : Nat
  B : Option Addr
  l : List Vt
  d : Nat
  tag : List UInt8
def Mg.cs (m : Mg) : List Value := iv m.k :: iv m.f :: iv m.to :: iv m.s :: iv m.v :: .slice m.A m.x.length m.c :: .slice m.B m.l.length m.d :: bvs m.tag
structure Mg.ok (m : Mg) (w : World) : Prop where
  x : Rd w m.A (bvs m.x)
  l : Rd w m.B (m.l.flatMap Vt.cs)
  votes : ∀ x ∈ m.l, x.ok
  tag : m.tag.length = 32
def Mg.body (m : Mg) : List UInt8 := encs [4, m.k, m.f, m.s, m.v] ++ (encRow m.x ++ votesb m.l)
theorem Mg.c0 (m : Mg) : m.cs.toArray[0]? = some (iv m.k) := by simp [Mg.cs]
theorem Mg.c1 (m : Mg) : m.cs.toArray[1]? = some (iv m.f) := by simp [Mg.cs]
theorem Mg.c2 (m : Mg) : m.cs.toArray[2]? = some (iv m.to) := by simp [Mg.cs]
theorem Mg.c3 (m : Mg) : m.cs.toArray[3]? = some (iv m.s) := by simp [Mg.cs]
theorem Mg.c4 (m : Mg) : m.cs.toArray[4]? = some (iv m.v) := by simp [Mg.cs]
theorem Mg.c5 (m : Mg) : m.cs.toArray[5]? = some (.slice m.A m.x.length m.c) := by simp [Mg.cs]
theorem Mg.c6 (m : Mg) : m.cs.toArray[6]? = some (.slice m.B m.l.length m.d) := by simp [Mg.cs]
theorem Mg.len (m : Mg) {w : World} (h : m.ok w) : m.cs.length = 39 := by simp [Mg.cs, h.tag]
theorem Mg.one (m : Mg) : m.cs.all (·.oneCell') = true := by
  simp only [Mg.cs, List.all_cons, Bool.and_eq_true, List.all_eq_true]
  exact ⟨rfl, rfl, rfl, rfl, rfl, rfl, rfl, fun v hv => bvs_one _ v hv⟩
theorem Mg.ok.st {m : Mg} {w0 w : World} {Gs : List (List Chunk)} (h : m.ok w0) (hS : St w0 [] Gs w) : m.ok w := ⟨hS.rd h.x (Apart.of_nil _ _), hS.rd h.l (Apart.of_nil _ _), h.votes, h.tag⟩
theorem votesb_len (l : List Vt) (h : ∀ x ∈ l, x.ok) : (votesb l).length ≤ 9 + 200 * l.length := by
  have h1 := encs_len [(l.length : Int)]
  have h2 := layb_take l h l.length
  rw [List.take_length] at h2
  simp only [List.length_cons, List.length_nil] at h1
  simp only [votesb, List.length_append]
  omega

theorem body_spec {w0 : World} {m : Mg} (hm : m.ok w0) (hx : m.x.length ≤ 10000) (hl : m.l.length ≤ 1000) : Calls Try.prog 8 #[.agg m.cs.toArray] w0 (Ret fun r w => ∃ G, BRow r m.body G ∧ St w0 [] [G] w) := by
  have hS : Own [] w0 := St.start w0
  refine calls_enter (l := [.agg m.cs.toArray]) Try.func8 rfl Try.ntmps8 Try.results8 (Nat.le_of_ble_eq_true rfl) ?_
  refine W_seq ?_
  refine W_region ?_
  refine O_box hS rfl rfl rfl (fun b1 w hS => ?_)
  refine O_assign rfl rfl rfl ?_
  refine O_end ?_
  refine W_seq ?_
  refine W_region ?_
  refine O_alloc hS rfl rfl (fun b3 w hS => ?_)
  have hS : St w0 [] (wcell b3 (.slice none 0 0) :: _) w := hS
  refine O_end ?_
  refine W_seq ?_
  refine W_region ?_
  refine O_fieldAddr rfl rfl rfl ?_
  refine O_load rfl rfl rfl rfl (hS.f1.cell m.c0) ?_
  refine O_fieldAddr rfl rfl rfl ?_
  refine O_load rfl rfl rfl rfl (hS.f1.cell m.c1) ?_
  refine O_fieldAddr rfl rfl rfl ?_
  refine O_load rfl rfl rfl rfl (hS.f1.cell m.c3) ?_
  refine O_fieldAddr rfl rfl rfl ?_
  refine O_load rfl rfl rfl rfl (hS.f1.cell m.c4) ?_
  refine O_lit hS rfl rfl rfl rfl rfl rfl (Nat.le_of_ble_eq_true rfl) (fun b12 w hS => ?_)
  have hn := hS.rdAll
  have ha := hS.apart_first (off := 0) (sp := none) (vs := [4, m.k, m.f, m.s, m.v].map iv)
  have hS := hS.f1.empty.f1
  have hcall := nums_spec (bs := []) (ns := [4, m.k, m.f, m.s, m.v]) (c := 5) hS.own2 (Row.nil _ _) hn (ha.sub' (by simp) (fun b hb => ids_sub (Gs' := [wcell b3 (.slice none 0 0)]) (by simp) b (by simpa [idsOf] using hb))) (by simp)
  refine O_call rfl rfl rfl hcall (fun r w ⟨hz, v1, R1, hR, hk⟩ => ?_)
  subst hz
  have hS := hS.after2 hk
  rw [List.nil_append] at hR
  have hl3 := encs_len [4, m.k, m.f, m.s, m.v]
  simp only [List.length_cons, List.length_nil] at hl3
  refine O_end ?_
  refine W_seq ?_
  refine W_region ?_
  refine O_fieldAddr rfl rfl rfl ?_
  refine O_load rfl rfl rfl rfl (hS.f3.cell m.c5) ?_
  refine O_lit hS rfl rfl rfl rfl rfl rfl (Nat.le_of_ble_eq_true rfl) (fun b16 w hS => ?_)
  have hn1 := hS.rdAll
  have ha1 := hS.apart_first (off := 0) (sp := none) (vs := [.slice m.A m.x.length m.c])
  have hS := hS.f1.f2.f1
  have hax := hS.apart hm.x (Apart.of_nil _ _)
  have hb1 : RdB w (some ⟨b16, 0, none⟩) [m.x] (idsOf [wcell b3 v1, R1]) := RdB.one hn1 rfl (ha1.sub (ids_sub (by simp))) (hS.rd hm.x (Apart.of_nil _ _)) (hax.sub (ids_sub (by simp)))
  have hcall := bytes_spec (c := 1) hS.own2 hR hb1 (by simp only [wt, List.map_cons, List.map_nil, List.sum_cons, List.sum_nil]; omega)
  refine O_call rfl rfl rfl hcall (fun r w ⟨hz, v1, R1, hR, hk⟩ => ?_)
  subst hz
  have hS := hS.after2 hk
  rw [show encRows [m.x] = encRow m.x from by simp [encRows]] at hR
  have her := encRow_len m.x (by omega)
  refine O_end ?_
  refine W_seq ?_
  refine W_region ?_
  refine O_fieldAddr rfl rfl rfl ?_
  refine O_load rfl rfl rfl rfl (hS.f4.cell m.c6) ?_
  have hal := hS.apart hm.l (Apart.of_nil _ _)
  have hcall := row_spec (d := m.d) hS.own2 hR (hS.rd hm.l (Apart.of_nil _ _)) (hal.sub (ids_sub (by simp))) hm.votes hl (by simp only [List.length_append]; omega)
  refine O_call rfl rfl rfl hcall (fun r w ⟨hz, v1, R1, hR, hk⟩ => ?_)
  subst hz
  have hS := hS.after2 hk
  have hvl := votesb_len m.l hm.votes
  refine O_end ?_
  refine W_seq ?_
  refine W_region ?_
  have hcall := out_spec hS.own2 hR (by simp only [List.length_append]; omega)
  refine O_call rfl rfl rfl hcall (fun r w ⟨G, hG, hk⟩ => ?_)
  have hS := (hS.after2 hk).keep1
  refine O_assign rfl rfl rfl ?_
  refine O_end ?_
  refine W_ret ⟨_, rfl, ?_⟩
  refine ⟨G, ?_, hS⟩
  have e : m.body = encs [4, m.k, m.f, m.s, m.v] ++ encRow m.x ++ votesb m.l := by simp [Mg.body, List.append_assoc]
  rw [e]
  exact hG

end Go.Proofs.Ytaglgnjamihdnaa.R
