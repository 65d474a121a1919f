/- Numbers as bytes, seven digits a byte: plain lists, no program. -/
import Derived.Test.YtaglgnjamihdnaaDoorRe
namespace Go.Proofs.YtaglgnjamihdnaaDoor.R
open Go

def bv (x : UInt8) : Value := .int .u8 x.toNat
def bvs (l : List UInt8) : List Value := l.map bv
def iv (n : Int) : Value := .int .i64 n

theorem bvs_append (a b : List UInt8) : bvs (a ++ b) = bvs a ++ bvs b := by simp [bvs]
@[simp] theorem bvs_length (a : List UInt8) : (bvs a).length = a.length := by simp [bvs]
theorem bvs_one (l : List UInt8) : ∀ u ∈ bvs l, u.oneCell' = true := by
  intro u hu
  obtain ⟨x, _, rfl⟩ := List.mem_map.1 hu
  rfl
theorem bvs_get {l : List UInt8} {i : Nat} {v : Value} (h : (bvs l)[i]? = some v) : ∃ x, l[i]? = some x ∧ v = bv x := by
  simp only [bvs, List.getElem?_map] at h
  cases hx : l[i]? with
  | none => simp [hx] at h
  | some x => simp [hx] at h; exact ⟨x, rfl, h.symm⟩
theorem bvs_at {l : List UInt8} {i : Nat} {x : UInt8} (h : l[i]? = some x) : (bvs l)[i]? = some (bv x) := by simp [bvs, h]

def enc (u : Nat) : List UInt8 := if u < 128 then [UInt8.ofNat u] else UInt8.ofNat (u % 128 + 128) :: enc (u / 128)
termination_by u
decreasing_by omega

theorem enc_small {u : Nat} (h : u < 128) : enc u = [UInt8.ofNat u] := by rw [enc, if_pos h]
theorem enc_big {u : Nat} (h : ¬ u < 128) : enc u = UInt8.ofNat (u % 128 + 128) :: enc (u / 128) := by rw [enc, if_neg h]

def clampN (n : Int) : Nat := (max 0 (min n 4611686018427387904)).toNat

theorem clampN_le (n : Int) : clampN n ≤ 4611686018427387904 := by unfold clampN; omega

def encs (ns : List Int) : List UInt8 := ns.flatMap fun n => enc (clampN n)

theorem enc_len : ∀ (k u : Nat), u < 128 ^ (k + 1) → (enc u).length ≤ k + 1 := by
  intro k
  induction k with
  | zero => intro u h; rw [enc_small (by omega)]; simp
  | succ k ih =>
    intro u h
    by_cases hu : u < 128
    · rw [enc_small hu]; simp
    · rw [enc_big hu, List.length_cons]
      have : u / 128 < 128 ^ (k + 1) := by rw [Nat.pow_succ] at h; omega
      have := ih _ this
      omega

theorem enc_le (u : Nat) (h : u ≤ 4611686018427387904) : (enc u).length ≤ 9 := enc_len 8 u (by rw [show (128 : Nat) ^ (8 + 1) = 9223372036854775808 from by decide]; omega)
theorem enc_pos (u : Nat) : 0 < (enc u).length := by
  by_cases hu : u < 128
  · rw [enc_small hu]; simp
  · rw [enc_big hu]; simp

theorem encs_nil : encs [] = [] := rfl
theorem encs_cons (n : Int) (ns : List Int) : encs (n :: ns) = enc (clampN n) ++ encs ns := rfl
theorem encs_append (a b : List Int) : encs (a ++ b) = encs a ++ encs b := by simp [encs]
theorem encs_len (ns : List Int) : (encs ns).length ≤ 9 * ns.length := by
  induction ns with
  | nil => simp [encs]
  | cons n ns ih =>
    rw [encs_cons, List.length_append, List.length_cons]
    have := enc_le (clampN n) (clampN_le n)
    omega

theorem or128 : ∀ x : Fin 256, (BitVec.ofNat 8 x.val ||| 128#8).toNat = x.val % 128 + 128 := by decide +kernel

/-- A byte with the mark that another one follows. -/
theorem more_byte (u : Nat) : IntKind.u8.wrap ((BitVec.ofInt IntKind.u8.bits (IntKind.u8.wrap (u : Int)) ||| BitVec.ofInt IntKind.u8.bits 128).toNat : Int) = ((UInt8.ofNat (u % 128 + 128)).toNat : Int) := by
  have h1 : IntKind.u8.wrap (u : Int) = ((u % 256 : Nat) : Int) := by rw [IntKind.wrap_u8]; omega
  have h2 : BitVec.ofInt IntKind.u8.bits (IntKind.u8.wrap (u : Int)) = BitVec.ofNat 8 (u % 256) := by rw [h1]; exact BitVec.ofInt_natCast ..
  have h3 : BitVec.ofInt IntKind.u8.bits 128 = (128#8 : BitVec 8) := rfl
  have h4 := or128 ⟨u % 256, Nat.mod_lt _ (by decide)⟩
  rw [h2, h3]
  have h5 : (BitVec.ofNat 8 (u % 256) ||| 128#8).toNat = u % 128 + 128 := by rw [h4]; simp
  have h6 : (UInt8.ofNat (u % 128 + 128)).toNat = u % 128 + 128 := by rw [UInt8.toNat_ofNat']; omega
  rw [h6]
  show IntKind.u8.wrap (((BitVec.ofNat 8 (u % 256) ||| 128#8 : BitVec 8).toNat : Nat) : Int) = _
  rw [h5, IntKind.wrap_u8]
  omega

theorem low_byte (u : Nat) : IntKind.u8.wrap (u : Int) = ((UInt8.ofNat u).toNat : Int) := by
  rw [IntKind.wrap_u8]; simp [UInt8.toNat_ofNat']

theorem shr7 (u : Nat) : (u : Int).fdiv (2 ^ (min (7 : Int).toNat IntKind.u64.bits)) = ((u / 128 : Nat) : Int) := by
  have : (2 : Int) ^ (min (7 : Int).toNat IntKind.u64.bits) = 128 := by decide
  rw [this, Int.fdiv_eq_ediv_of_nonneg _ (by decide)]
  omega

theorem clamp_u64 (n : Int) : IntKind.u64.wrap (max 0 (min n 4611686018427387904)) = ((clampN n : Nat) : Int) := by
  rw [IntKind.wrap_u64]; unfold clampN; omega

theorem i64_succ (k : Nat) (h : k < 9223372036854775807) : evalBin .add .i64 (k : Int) 1 = some (.int .i64 ((k + 1 : Nat) : Int)) := by
  have : IntKind.i64.wrap ((k : Int) + 1) = ((k + 1 : Nat) : Int) := by rw [IntKind.wrap_i64]; omega
  show some (Value.int .i64 (IntKind.i64.wrap ((k : Int) + 1))) = _
  rw [this]

theorem brow_snoc {e : TypeId} {v : Value} {d : List UInt8} {x : UInt8} {R : List Chunk} (h : Row e 1 v (d.length + 1) (bvs d ++ [bv x]) R) : Row e 1 v (d ++ [x]).length (bvs (d ++ [x])) R := by
  simpa [bvs] using h
theorem brow_append {e : TypeId} {v : Value} {d y : List UInt8} {m : Nat} {R : List Chunk} (h : Row e 1 v (d.length + m) (bvs d ++ bvs y) R) (hm : m = y.length) : Row e 1 v (d ++ y).length (bvs (d ++ y)) R := by
  subst hm
  simpa [bvs] using h

theorem beq_of_bne {a b : Int} (h : (a != b) = false) : a = b := by simpa using h
theorem byte_eq {x y : UInt8} (h : (x.toNat : Int) = y.toNat) : x = y := UInt8.toNat_inj.1 (by omega)

/-! ### the check sum -/

def uv (c : BitVec 32) : Value := .int .u32 c.toNat

def crcBit (v : BitVec 32) : BitVec 32 := (v >>> 1) ^^^ (0xedb88320#32 &&& -(v &&& 1#32))
def crcBits : Nat → BitVec 32 → BitVec 32
  | 0, v => v
  | k + 1, v => crcBits k (crcBit v)
def crcByte (v : BitVec 32) (b : UInt8) : BitVec 32 := crcBits 8 (v ^^^ BitVec.ofNat 32 b.toNat)
def crcAll (v : BitVec 32) (l : List UInt8) : BitVec 32 := l.foldl crcByte v
def crc (l : List UInt8) : BitVec 32 := ~~~ (crcAll 0xffffffff#32 l)

theorem crcBits_succ (k : Nat) (v : BitVec 32) : crcBits (k + 1) v = crcBit (crcBits k v) := by
  induction k generalizing v with
  | zero => rfl
  | succ k ih => rw [crcBits, ih]; rfl
theorem crcAll_append (v : BitVec 32) (a b : List UInt8) : crcAll v (a ++ b) = crcAll (crcAll v a) b := List.foldl_append ..

theorem ofInt_u32 (v : BitVec 32) : BitVec.ofInt IntKind.u32.bits (v.toNat : Int) = v := by
  show BitVec.ofInt 32 (v.toNat : Int) = v
  rw [BitVec.ofInt_natCast, BitVec.ofNat_toNat]
  simp
theorem wrap_u32_bv (v : BitVec 32) : IntKind.u32.wrap (v.toNat : Int) = v.toNat := by
  rw [IntKind.wrap_u32]; have := v.isLt; omega

theorem ev_xor32 (x y : BitVec 32) : evalBin .xor .u32 (x.toNat : Int) (y.toNat : Int) = some (uv (x ^^^ y)) := by
  show some (Value.int .u32 (IntKind.u32.wrap ((BitVec.ofInt IntKind.u32.bits (x.toNat : Int) ^^^ BitVec.ofInt IntKind.u32.bits (y.toNat : Int)).toNat : Int))) = _
  rw [ofInt_u32, ofInt_u32]
  exact congrArg (fun z => some (Value.int .u32 z)) (wrap_u32_bv _)
theorem ev_and32 (x y : BitVec 32) : evalBin .and .u32 (x.toNat : Int) (y.toNat : Int) = some (uv (x &&& y)) := by
  show some (Value.int .u32 (IntKind.u32.wrap ((BitVec.ofInt IntKind.u32.bits (x.toNat : Int) &&& BitVec.ofInt IntKind.u32.bits (y.toNat : Int)).toNat : Int))) = _
  rw [ofInt_u32, ofInt_u32]
  exact congrArg (fun z => some (Value.int .u32 z)) (wrap_u32_bv _)
theorem ev_shr1 (x : BitVec 32) : evalShift .shr .u32 (x.toNat : Int) 1 = some (uv (x >>> 1)) := by
  show some (Value.int .u32 ((x.toNat : Int).fdiv (2 ^ (min (1 : Int).toNat IntKind.u32.bits)))) = some (Value.int .u32 ((x >>> 1).toNat : Int))
  have h2 : (2 : Int) ^ (min (1 : Int).toNat IntKind.u32.bits) = 2 := by decide
  have h3 : (x >>> 1).toNat = x.toNat / 2 := by simp [BitVec.toNat_ushiftRight, Nat.shiftRight_eq_div_pow]
  rw [h2, h3, Int.fdiv_eq_ediv_of_nonneg _ (by decide)]
  rfl
theorem ev_neg32 (x : BitVec 32) : evalUn .neg .u32 (x.toNat : Int) = some (uv (-x)) := by
  show some (Value.int .u32 (IntKind.u32.wrap (0 - (x.toNat : Int)))) = some (Value.int .u32 ((-x).toNat : Int))
  rw [IntKind.wrap_u32, BitVec.toNat_neg]
  have := x.isLt
  congr 2
  omega
theorem ev_not32 (x : BitVec 32) : evalUn .xor .u32 (x.toNat : Int) = some (uv (~~~ x)) := by
  have hm : (if IntKind.u32.signed = true then (-1 : Int) else IntKind.u32.max) = ((0xffffffff#32 : BitVec 32).toNat : Int) := by decide
  show some (Value.int .u32 (IntKind.u32.wrap ((BitVec.ofInt IntKind.u32.bits (if IntKind.u32.signed = true then (-1 : Int) else IntKind.u32.max) ^^^ BitVec.ofInt IntKind.u32.bits (x.toNat : Int)).toNat : Int))) = _
  rw [hm, ofInt_u32, ofInt_u32]
  have : (0xffffffff#32 ^^^ x : BitVec 32) = ~~~ x := by rw [show (0xffffffff#32 : BitVec 32) = BitVec.allOnes 32 from by decide, BitVec.allOnes_xor]
  show some (Value.int .u32 (IntKind.u32.wrap ((0xffffffff#32 ^^^ x : BitVec 32).toNat : Int))) = _
  rw [this]
  exact congrArg (fun z => some (Value.int .u32 z)) (wrap_u32_bv _)
theorem conv_u8_u32 (b : UInt8) : IntKind.u32.wrap (b.toNat : Int) = ((BitVec.ofNat 32 b.toNat).toNat : Int) := by
  rw [IntKind.wrap_u32, BitVec.toNat_ofNat]
  have := b.toNat_lt
  omega

/-! ### rows of bytes -/

def RdB (w : World) (A : Option Addr) (rows : List (List UInt8)) (F : List Nat) : Prop := RdRows w A (rows.map bvs) F

theorem RdB.at {w : World} {F : List Nat} {A : Option Addr} {rows : List (List UInt8)} (h : RdB w A rows F) (j : Nat) (hj : j < rows.length) :
    ∃ (vs : List Value) (Ai : Option Addr) (ci : Nat), Rd w A vs ∧ Apart A vs F ∧ vs[j]? = some (Value.slice Ai rows[j].length ci) ∧ Rd w Ai (bvs rows[j]) ∧ Apart Ai (bvs rows[j]) F := by
  obtain ⟨vs, h1, h2, h3, h4⟩ := h
  obtain ⟨Ai, ci, h5, h6, h7⟩ := h4 j (bvs rows[j]) (by simp [hj])
  exact ⟨vs, Ai, ci, h2, h3, by simpa using h5, h6, h7⟩

theorem RdB.st {w0 w : World} {F : List Nat} {Gs : List (List Chunk)} {A : Option Addr} {rows : List (List UInt8)} (h : RdB w0 A rows F) (hS : St w0 F Gs w) : RdB w A rows F := RdRows.st h hS
theorem RdB.hand {w0 w : World} {F F' : List Nat} {Gs : List (List Chunk)} {A : Option Addr} {rows : List (List UInt8)} (h : RdB w0 A rows F) (hS : St w0 F Gs w) (hF : ∀ b ∈ F', b ∈ idsOf Gs) : RdB w A rows F' := RdRows.hand h hS hF

theorem RdB.nil (w : World) (F : List Nat) (A : Option Addr) : RdB w A [] F := ⟨[], rfl, Rd.nil _ _, fun h => (h rfl).elim, fun i xs h => by simp at h⟩

def encRow (x : List UInt8) : List UInt8 := enc x.length ++ x
def encRows (rows : List (List UInt8)) : List UInt8 := rows.flatMap encRow
def wt (rows : List (List UInt8)) : Nat := (rows.map fun r => r.length + 10).sum

theorem encRow_len (x : List UInt8) (h : x.length ≤ 4611686018427387904) : (encRow x).length ≤ x.length + 9 := by
  have := enc_le _ h
  simp only [encRow, List.length_append]
  omega
theorem wt_cons (x : List UInt8) (r : List (List UInt8)) : wt (x :: r) = x.length + 10 + wt r := rfl
theorem wt_append (a b : List (List UInt8)) : wt (a ++ b) = wt a + wt b := by simp [wt]
theorem encRows_len : ∀ (rows : List (List UInt8)), wt rows ≤ 4611686018427387904 → (encRows rows).length + rows.length ≤ wt rows := by
  intro rows
  induction rows with
  | nil => intro _; simp [encRows, wt]
  | cons x r ih =>
    intro h
    rw [wt_cons] at h ⊢
    have h1 := ih (by omega)
    have h2 := encRow_len x (by omega)
    simp only [encRows, List.flatMap_cons, List.length_append, List.length_cons] at h1 ⊢
    omega
theorem wt_length (rows : List (List UInt8)) : rows.length ≤ wt rows := by
  induction rows with
  | nil => simp
  | cons x r ih => rw [wt_cons, List.length_cons]; omega
theorem wt_take (rows : List (List UInt8)) (j : Nat) (hj : j < rows.length) : wt (rows.take j) + rows[j].length + 10 ≤ wt rows := by
  have h1 : rows = rows.take j ++ (rows[j] :: rows.drop (j + 1)) := by rw [← List.drop_eq_getElem_cons hj, List.take_append_drop]
  have h2 := congrArg wt h1
  rw [wt_append, wt_cons] at h2
  omega
theorem clampN_nat (k : Nat) (h : k ≤ 4611686018427387904) : clampN (k : Int) = k := by unfold clampN; omega
theorem encRows_snoc (rows : List (List UInt8)) (j : Nat) (hj : j < rows.length) : encRows (rows.take (j + 1)) = encRows (rows.take j) ++ encRow rows[j] := by
  unfold encRows; rw [List.take_succ_eq_append_getElem hj, List.flatMap_append]; simp only [List.flatMap_cons, List.flatMap_nil, List.append_nil]
theorem flatten_snoc {α : Type} (rows : List (List α)) (j : Nat) (hj : j < rows.length) : (rows.take (j + 1)).flatten = (rows.take j).flatten ++ rows[j] := by
  rw [List.take_succ_eq_append_getElem hj, List.flatten_append]; simp only [List.flatten_cons, List.flatten_nil, List.append_nil]
theorem crc_snoc (v : BitVec 32) (l : List UInt8) (j : Nat) (hj : j < l.length) : crcAll v (l.take (j + 1)) = crcByte (crcAll v (l.take j)) l[j] := by
  rw [List.take_succ_eq_append_getElem hj, crcAll_append]; rfl
theorem crcBit_if (v : BitVec 32) : crcBit v = if v &&& 1#32 = 1#32 then (v >>> 1) ^^^ 0xedb88320#32 else v >>> 1 := by
  have h : v &&& 1#32 = 1#32 ∨ v &&& 1#32 = 0#32 := by
    have : (v &&& 1#32).toNat = v.toNat % 2 := by simp [BitVec.toNat_and, Nat.and_one_is_mod]
    rcases Nat.mod_two_eq_zero_or_one v.toNat with h | h
    · right; apply BitVec.eq_of_toNat_eq; rw [this, h]; rfl
    · left; apply BitVec.eq_of_toNat_eq; rw [this, h]; rfl
  unfold crcBit
  rcases h with h | h
  · rw [if_pos h, h, show (0xedb88320#32 &&& -1#32 : BitVec 32) = 0xedb88320#32 from by decide]
  · rw [if_neg (by rw [h]; decide), h, show (0xedb88320#32 &&& -0#32 : BitVec 32) = 0#32 from by decide, BitVec.xor_zero]

theorem ev_and127 (u : Nat) (h : u ≤ 4611686018427387904) : evalBin .and .u64 (u : Int) 127 = some (.int .u64 ((u % 128 : Nat) : Int)) := by
  show some (Value.int .u64 (IntKind.u64.wrap ((BitVec.ofInt IntKind.u64.bits (u : Int) &&& BitVec.ofInt IntKind.u64.bits 127).toNat : Int))) = _
  have h1 : BitVec.ofInt IntKind.u64.bits (u : Int) = BitVec.ofNat 64 u := BitVec.ofInt_natCast ..
  have h2 : BitVec.ofInt IntKind.u64.bits 127 = (127#64 : BitVec 64) := rfl
  have h3 : ((BitVec.ofNat 64 u &&& 127#64 : BitVec 64)).toNat = u % 128 := by
    rw [BitVec.toNat_and, BitVec.toNat_ofNat, Nat.mod_eq_of_lt (by omega), show (127#64 : BitVec 64).toNat = 2 ^ 7 - 1 from by decide, Nat.and_two_pow_sub_one_eq_mod]
  rw [h1, h2]
  show some (Value.int .u64 (IntKind.u64.wrap (((BitVec.ofNat 64 u &&& 127#64 : BitVec 64)).toNat : Int))) = _
  rw [h3, IntKind.wrap_u64]
  congr 2
  omega
theorem more_byte2 (u : Nat) : IntKind.u8.wrap ((BitVec.ofInt IntKind.u8.bits (IntKind.u8.wrap ((u % 128 : Nat) : Int)) ||| BitVec.ofInt IntKind.u8.bits 128).toNat : Int) = ((UInt8.ofNat (u % 128 + 128)).toNat : Int) := by
  rw [more_byte, Nat.mod_mod]

theorem u32_eq {v : BitVec 32} (h : ((v.toNat : Int) == 1) = true) : v = 1#32 := by
  have h1 : (v.toNat : Int) = 1 := by simpa using h
  apply BitVec.eq_of_toNat_eq
  show v.toNat = 1
  omega
theorem u32_ne {v : BitVec 32} (h : ((v.toNat : Int) == 1) = false) : ¬ v = 1#32 := by
  rintro rfl
  exact absurd h (by decide)

theorem encs_snoc (ns : List Int) (j : Nat) (hj : j < ns.length) : encs (ns.take (j + 1)) = encs (ns.take j) ++ enc (clampN ns[j]) := by
  rw [List.take_succ_eq_append_getElem hj, encs_append]; simp only [encs_cons, encs_nil, List.append_nil]

theorem RdB.one {w : World} {F : List Nat} {A Ai : Option Addr} {x : List UInt8} {ci n : Nat} (h1 : Rd w A [.slice Ai n ci]) (hn : n = x.length) (h2 : Apart A [.slice Ai n ci] F) (h3 : Rd w Ai (bvs x)) (h4 : Apart Ai (bvs x) F) : RdB w A [x] F := by
  subst hn
  refine ⟨[.slice Ai x.length ci], rfl, h1, h2, fun i xs hx => ?_⟩
  cases i with
  | zero => simp at hx; subst hx; exact ⟨Ai, ci, by simp, h3, h4⟩
  | succ i => simp at hx
theorem RdB.two {w : World} {F : List Nat} {A Ai Aj : Option Addr} {x y : List UInt8} {ci cj n m : Nat} (h1 : Rd w A [.slice Ai n ci, .slice Aj m cj]) (hn : n = x.length) (hm : m = y.length) (h2 : Apart A [.slice Ai n ci, .slice Aj m cj] F) (h3 : Rd w Ai (bvs x)) (h4 : Apart Ai (bvs x) F) (h5 : Rd w Aj (bvs y)) (h6 : Apart Aj (bvs y) F) : RdB w A [x, y] F := by
  subst hn hm
  refine ⟨[.slice Ai x.length ci, .slice Aj y.length cj], rfl, h1, h2, fun i xs hx => ?_⟩
  cases i with
  | zero => simp at hx; subst hx; exact ⟨Ai, ci, by simp, h3, h4⟩
  | succ i =>
    cases i with
    | zero => simp at hx; subst hx; exact ⟨Aj, cj, by simp, h5, h6⟩
    | succ i => simp at hx

theorem shr7_i64 (u : Nat) : evalShift .shr .i64 (u : Int) 7 = some (.int .i64 ((u / 128 : Nat) : Int)) := by
  show some (Value.int .i64 ((u : Int).fdiv (2 ^ (min (7 : Int).toNat IntKind.i64.bits)))) = _
  have : (2 : Int) ^ (min (7 : Int).toNat IntKind.i64.bits) = 128 := by decide
  rw [this, Int.fdiv_eq_ediv_of_nonneg _ (by decide)]
  rfl

/-- How many bytes are still to come, behind a digit. -/
def encMore (u : Nat) : Nat := if u = 0 then 0 else (enc u).length
theorem enc_length (u : Nat) : (enc u).length = 1 + encMore (u / 128) := by
  by_cases h : u < 128
  · rw [enc_small h, encMore, if_pos (by omega)]; rfl
  · rw [enc_big h, encMore, if_neg (by omega), List.length_cons]; omega
theorem encMore_pos {u : Nat} (h : 0 < u) : encMore u = 1 + encMore (u / 128) := by
  rw [← enc_length, encMore, if_neg (by omega)]
theorem enc_head (u : Nat) : ∃ x r, enc u = x :: r ∧ (x.toNat < 128 ↔ u < 128) := by
  by_cases h : u < 128
  · refine ⟨_, _, enc_small h, ?_⟩
    rw [UInt8.toNat_ofNat']; omega
  · refine ⟨_, _, enc_big h, ?_⟩
    rw [UInt8.toNat_ofNat']; omega
theorem enc_last : ∀ (k u : Nat), u < 128 ^ (k + 1) → 128 ≤ u → ∃ r x, enc u = r ++ [x] ∧ x.toNat ≠ 0 := by
  intro k
  induction k with
  | zero => intro u h h'; omega
  | succ k ih =>
    intro u h h'
    have hb : u / 128 < 128 ^ (k + 1) := by rw [Nat.pow_succ] at h; omega
    rw [enc_big (by omega)]
    by_cases h2 : u / 128 < 128
    · refine ⟨[_], _, by rw [enc_small h2]; rfl, ?_⟩
      rw [UInt8.toNat_ofNat']; omega
    · obtain ⟨r, x, hr, hx⟩ := ih (u / 128) hb (by omega)
      exact ⟨_ :: r, x, by rw [hr]; rfl, hx⟩

/-! ### a Reader -/

/-- The slice v reads as these bytes, as long as the group G lies there. -/
def View (v : Value) (bs : List UInt8) (G : List Chunk) : Prop :=
  ∃ (A : Option Addr) (c : Nat), v = Value.slice A bs.length c ∧ bs.length ≤ c ∧ c ≤ maxLen ∧ ∀ (w0 w : World) (F : List Nat) (Gs : List (List Chunk)), St w0 F (G :: Gs) w → Rd w A (bvs bs) ∧ Apart A (bvs bs) (idsOf Gs)

theorem View.nil (G : List Chunk) : View (.slice none 0 0) [] G := ⟨none, 0, rfl, Nat.le_refl _, Nat.zero_le _, fun _ _ _ _ _ => ⟨Rd.nil _ _, fun h => (h rfl).elim⟩⟩

theorem View.ofRow {e : TypeId} {v : Value} {bs : List UInt8} {G : List Chunk} (h : Row e 1 v bs.length (bvs bs) G) : View v bs G := by
  obtain ⟨A, c, hv, h1, h2⟩ := h.form
  refine ⟨A, c, hv, h1, h2, fun w0 w F Gs hS => ?_⟩
  obtain ⟨A', c', hv', _, _, h3, h4⟩ := h.rd hS
  rw [hv] at hv'
  cases hv'
  exact ⟨h3, h4⟩

theorem Rd.drop {w : World} {A : Option Addr} {vs : List Value} (h : Rd w A vs) (k : Nat) : Rd w (A.map (·.add k)) (vs.drop k) := fun i v hv => by
  rw [List.getElem?_drop] at hv
  obtain ⟨a, rfl, hc⟩ := h _ _ hv
  refine ⟨_, rfl, ?_⟩
  rw [show (a.add k).add i = a.add (k + i) from ?_]
  · exact hc
  · unfold Addr.add
    by_cases h1 : k = 0
    · subst h1; simp
    · by_cases h2 : i = 0
      · subst h2; simp [h1]
      · rw [if_neg h1, if_neg h2, if_neg (by omega)]
        simp [Nat.add_assoc]
theorem Rd.take {w : World} {A : Option Addr} {vs : List Value} (h : Rd w A vs) (k : Nat) : Rd w A (vs.take k) := fun i v hv => by
  rw [List.getElem?_take] at hv
  split at hv
  · exact h i v hv
  · cases hv
theorem bvs_drop (l : List UInt8) (k : Nat) : bvs (l.drop k) = (bvs l).drop k := by simp [bvs, List.map_drop]
theorem bvs_take (l : List UInt8) (k : Nat) : bvs (l.take k) = (bvs l).take k := by simp [bvs, List.map_take]

theorem View.drop {A : Option Addr} {bs : List UInt8} {c k : Nat} {G : List Chunk} (h : View (.slice A bs.length c) bs G) (hk : k ≤ bs.length) :
    View (.slice (if c = k then A else A.map (·.add (k * 1))) (bs.length - k) (c - k)) (bs.drop k) G := by
  obtain ⟨A', c', hv, h1, h2, h3⟩ := h
  cases hv
  by_cases hc : c = k
  · rw [if_pos hc]
    have : bs.drop k = [] := List.drop_eq_nil_of_le (by omega)
    rw [this]
    refine ⟨A, c - k, by simp; omega, by simp, by omega, fun _ _ _ _ _ => ⟨Rd.nil _ _, fun h => (h rfl).elim⟩⟩
  · rw [if_neg hc, Nat.mul_one]
    refine ⟨_, c - k, by rw [List.length_drop], by rw [List.length_drop]; omega, by omega, fun w0 w F Gs hS => ?_⟩
    obtain ⟨h4, h5⟩ := h3 w0 w F Gs hS
    refine ⟨by rw [bvs_drop]; exact h4.drop k, fun hne a ha => ?_⟩
    cases A with
    | none => cases ha
    | some a' =>
      cases ha
      rw [add_block]
      refine h5 (fun he => hne ?_) a' rfl
      rw [bvs_drop, he, List.drop_nil]

/-- What a Reader holds: nothing where it erred. -/
abbrev RSt := Option (List UInt8)
def RSt.left (s : RSt) : List UInt8 := s.getD []
def RView (v : Value) (b : Bool) (s : RSt) (G : List Chunk) : Prop := b = s.isNone ∧ View v s.left G

theorem RView.bad (G : List Chunk) : RView (.slice none 0 0) true none G := ⟨rfl, View.nil G⟩

def decGo (i u : Nat) : List UInt8 → Option (Nat × List UInt8)
  | [] => none
  | c :: r => if 9 ≤ i ∨ (0 < i ∧ c = 0) then none else
      if c.toNat < 128 then (if u + c.toNat % 128 * 128 ^ i > 4611686018427387904 then none else some (u + c.toNat % 128 * 128 ^ i, r))
      else decGo (i + 1) (u + c.toNat % 128 * 128 ^ i) r
def dec (l : List UInt8) : Option (Nat × List UInt8) := decGo 0 0 l

def rnum (s : RSt) : Nat × RSt := match s with
  | none => (0, none)
  | some bs => match dec bs with
    | some (u, r) => (u, some r)
    | none => (0, none)
def rraw (s : RSt) (n : Int) : List UInt8 × RSt := match s with
  | none => ([], none)
  | some bs => if n < 0 ∨ n > bs.length then ([], none) else (bs.take n.toNat, some (bs.drop n.toNat))
def rbytes (s : RSt) : List UInt8 × RSt := rraw (rnum s).2 (rnum s).1

theorem rnum_none {s : RSt} (h : dec s.left = none) : rnum s = (0, none) := by
  cases s with
  | none => rfl
  | some l => unfold rnum; dsimp only; rw [show dec l = none from h]
theorem rnum_some {s : RSt} {u : Nat} {r : List UInt8} (h : dec s.left = some (u, r)) : rnum s = (u, some r) := by
  cases s with
  | none => rw [show RSt.left none = [] from rfl] at h; simp [dec, decGo] at h
  | some l => unfold rnum; dsimp only; rw [show dec l = some (u, r) from h]

theorem decGo_cons (i u : Nat) (c : UInt8) (r : List UInt8) : decGo i u (c :: r) = if 9 ≤ i ∨ (0 < i ∧ c = 0) then none else
      if c.toNat < 128 then (if u + c.toNat % 128 * 128 ^ i > 4611686018427387904 then none else some (u + c.toNat % 128 * 128 ^ i, r))
      else decGo (i + 1) (u + c.toNat % 128 * 128 ^ i) r := rfl

theorem and127_u8 : ∀ x : Fin 256, (BitVec.ofNat 8 x.val &&& 127#8).toNat = x.val % 128 := by decide +kernel
theorem ev_and127b (c : UInt8) : evalBin .and .u8 (c.toNat : Int) 127 = some (.int .u8 ((c.toNat % 128 : Nat) : Int)) := by
  show some (Value.int .u8 (IntKind.u8.wrap ((BitVec.ofInt IntKind.u8.bits (c.toNat : Int) &&& BitVec.ofInt IntKind.u8.bits 127).toNat : Int))) = _
  have h1 : BitVec.ofInt IntKind.u8.bits (c.toNat : Int) = BitVec.ofNat 8 c.toNat := BitVec.ofInt_natCast ..
  have h2 : BitVec.ofInt IntKind.u8.bits 127 = (127#8 : BitVec 8) := rfl
  have h3 := and127_u8 ⟨c.toNat, c.toNat_lt⟩
  rw [h1, h2]
  show some (Value.int .u8 (IntKind.u8.wrap (((BitVec.ofNat 8 c.toNat &&& 127#8 : BitVec 8)).toNat : Int))) = _
  rw [h3, IntKind.wrap_u8]
  congr 2
  show ((c.toNat % 128 : Nat) : Int) % 256 = _
  omega
theorem conv_u64 (x : Nat) (h : x < 18446744073709551616) : IntKind.u64.wrap (x : Int) = (x : Int) := by rw [IntKind.wrap_u64]; omega
theorem conv_i64 (x : Nat) (h : x < 9223372036854775808) : IntKind.i64.wrap (x : Int) = (x : Int) := by rw [IntKind.wrap_i64]; omega
theorem mul7 (i : Nat) (h : i ≤ 9) : evalBin .mul .i64 7 (i : Int) = some (.int .i64 ((7 * i : Nat) : Int)) := by
  have h1 : IntKind.i64.wrap (7 * (i : Int)) = ((7 * i : Nat) : Int) := by rw [IntKind.wrap_i64]; omega
  show some (Value.int .i64 (IntKind.i64.wrap (7 * (i : Int)))) = _
  rw [h1]
theorem pow_le {i : Nat} (h : i ≤ 8) : 128 ^ i ≤ 72057594037927936 := by
  have := Nat.pow_le_pow_right (show 0 < 128 by decide) h
  rw [show (128 : Nat) ^ 8 = 72057594037927936 from by decide] at this
  exact this
theorem two_seven (i : Nat) : 2 ^ (7 * i) = 128 ^ i := by rw [Nat.pow_mul]
theorem shl7 (x i : Nat) (hx : x < 128) (hi : i ≤ 8) : evalShift .shl .u64 (x : Int) ((7 * i : Nat) : Int) = some (.int .u64 ((x * 128 ^ i : Nat) : Int)) := by
  show some (Value.int .u64 (IntKind.u64.wrap ((x : Int) * 2 ^ (min ((7 * i : Nat) : Int).toNat IntKind.u64.bits)))) = _
  have h1 : min ((7 * i : Nat) : Int).toNat IntKind.u64.bits = 7 * i := by
    rw [Int.toNat_natCast, show IntKind.u64.bits = 64 from rfl]; omega
  have h2 : (x : Int) * 2 ^ (7 * i) = ((x * 128 ^ i : Nat) : Int) := by rw [← two_seven]; push_cast; rfl
  have h3 := pow_le hi
  have h4 : x * 128 ^ i ≤ 127 * 72057594037927936 := Nat.mul_le_mul (by omega) h3
  rw [h1, h2, conv_u64 _ (by omega)]
theorem or_step (u x i : Nat) (hu : u < 128 ^ i) (hx : x < 128) (hi : i ≤ 8) : evalBin .or .u64 (u : Int) ((x * 128 ^ i : Nat) : Int) = some (.int .u64 ((u + x * 128 ^ i : Nat) : Int)) := by
  show some (Value.int .u64 (IntKind.u64.wrap ((BitVec.ofInt IntKind.u64.bits (u : Int) ||| BitVec.ofInt IntKind.u64.bits ((x * 128 ^ i : Nat) : Int)).toNat : Int))) = _
  have h3 := pow_le hi
  have h4 : x * 128 ^ i ≤ 127 * 72057594037927936 := Nat.mul_le_mul (by omega) h3
  have h1 : BitVec.ofInt IntKind.u64.bits (u : Int) = BitVec.ofNat 64 u := BitVec.ofInt_natCast ..
  have h2 : BitVec.ofInt IntKind.u64.bits ((x * 128 ^ i : Nat) : Int) = BitVec.ofNat 64 (x * 128 ^ i) := BitVec.ofInt_natCast ..
  have h5 : (BitVec.ofNat 64 u ||| BitVec.ofNat 64 (x * 128 ^ i)).toNat = u + x * 128 ^ i := by
    rw [BitVec.toNat_or, BitVec.toNat_ofNat, BitVec.toNat_ofNat, Nat.mod_eq_of_lt (by omega), Nat.mod_eq_of_lt (by omega), ← two_seven]
    have := Nat.shiftLeft_add_eq_or_of_lt (show u < 2 ^ (7 * i) by rw [two_seven]; exact hu) x
    rw [Nat.shiftLeft_eq] at this
    rw [Nat.or_comm, ← this, Nat.add_comm]
  rw [h1, h2]
  show some (Value.int .u64 (IntKind.u64.wrap ((BitVec.ofNat 64 u ||| BitVec.ofNat 64 (x * 128 ^ i)).toNat : Int))) = _
  rw [h5, conv_u64 _ (by omega)]

theorem add_i64 (a b : Nat) (h : a + b < 9223372036854775808) : evalBin .add .i64 (a : Int) (b : Int) = some (.int .i64 ((a + b : Nat) : Int)) := by
  have h1 : IntKind.i64.wrap ((a : Int) + (b : Int)) = ((a + b : Nat) : Int) := by rw [IntKind.wrap_i64]; omega
  show some (Value.int .i64 (IntKind.i64.wrap ((a : Int) + (b : Int)))) = _
  rw [h1]

theorem pow128_9 {i : Nat} (h : 9 ≤ i) : 9223372036854775808 ≤ 128 ^ i := by
  have := Nat.pow_le_pow_right (show 0 < 128 by decide) h
  rw [show (128 : Nat) ^ 9 = 9223372036854775808 from by decide] at this
  exact this

theorem decGo_enc : ∀ (u i a : Nat) (r : List UInt8), a < 128 ^ i → (i = 0 ∨ 0 < u) → a + u * 128 ^ i ≤ 4611686018427387904 → decGo i a (enc u ++ r) = some (a + u * 128 ^ i, r) := by
  intro u
  induction u using Nat.strongRecOn with
  | _ u ih =>
    intro i a r ha hi hle
    have hi9 : ¬ 9 ≤ i := by
      intro h9
      have h1 := pow128_9 h9
      have h2 : 1 * 128 ^ i ≤ u * 128 ^ i := Nat.mul_le_mul_right _ (by omega)
      omega
    by_cases hu : u < 128
    · have ht : (UInt8.ofNat u).toNat = u := by rw [UInt8.toNat_ofNat']; omega
      rw [enc_small hu, List.singleton_append, decGo_cons, if_neg, if_pos (by omega), ht, Nat.mod_eq_of_lt hu, if_neg (by omega)]
      rintro (h | ⟨h1, h2⟩)
      · omega
      · have := congrArg UInt8.toNat h2
        rw [ht] at this
        simp at this
        omega
    · have ht : (UInt8.ofNat (u % 128 + 128)).toNat = u % 128 + 128 := by rw [UInt8.toNat_ofNat']; omega
      have hsplit : a + u % 128 * 128 ^ i + u / 128 * 128 ^ (i + 1) = a + u * 128 ^ i := by
        have h1 : u * 128 ^ i = (u % 128 + 128 * (u / 128)) * 128 ^ i := by rw [Nat.mod_add_div]
        rw [h1, Nat.add_mul, Nat.pow_succ, Nat.add_assoc]
        congr 2
        rw [Nat.mul_comm (128 ^ i) 128, ← Nat.mul_assoc, Nat.mul_comm (u / 128) 128]
      have hlt : a + u % 128 * 128 ^ i < 128 ^ (i + 1) := by
        have h1 : u % 128 * 128 ^ i ≤ 127 * 128 ^ i := Nat.mul_le_mul_right _ (by omega)
        rw [Nat.pow_succ]
        omega
      rw [enc_big hu, List.cons_append, decGo_cons, if_neg, if_neg (by omega), ht, show (u % 128 + 128) % 128 = u % 128 by omega, ih (u / 128) (by omega) (i + 1) _ r hlt (.inr (by omega)) (by omega), hsplit]
      rintro (h | ⟨h1, h2⟩)
      · omega
      · have := congrArg UInt8.toNat h2
        rw [ht] at this
        simp at this

theorem dec_enc (u : Nat) (r : List UInt8) (h : u ≤ 4611686018427387904) : dec (enc u ++ r) = some (u, r) := by
  have := decGo_enc u 0 0 r (by simp) (.inl rfl) (by simpa using h)
  simpa [dec] using this
theorem rnum_enc (u : Nat) (r : List UInt8) (h : u ≤ 4611686018427387904) : rnum (some (enc u ++ r)) = (u, some r) := by
  unfold rnum; dsimp only; rw [dec_enc u r h]
theorem encs_drop (ns : List Int) (j : Nat) (hj : j < ns.length) : encs (ns.drop j) = enc (clampN ns[j]) ++ encs (ns.drop (j + 1)) := by
  rw [List.drop_eq_getElem_cons hj, encs_cons]
theorem clampN_cast (n : Int) : max 0 (min n 4611686018427387904) = (clampN n : Int) := by unfold clampN; omega

theorem flatten_len (rows : List (List UInt8)) : rows.flatten.length ≤ wt rows := by
  induction rows with
  | nil => simp
  | cons x r ih => rw [wt_cons, List.flatten_cons, List.length_append]; omega
theorem flatten_take_le (rows : List (List UInt8)) (j : Nat) : (rows.take j).flatten.length ≤ rows.flatten.length := by
  conv => rhs; rw [← List.take_append_drop j rows, List.flatten_append, List.length_append]
  omega
theorem flatten_get_le (rows : List (List UInt8)) (j : Nat) (hj : j < rows.length) : (rows.take j).flatten.length + rows[j].length ≤ rows.flatten.length := by
  have h1 := flatten_take_le rows (j + 1)
  rw [flatten_snoc rows j hj, List.length_append] at h1
  exact h1
theorem sub_max (n : Nat) (h : n ≤ 1000000000) : evalBin .sub .i64 9223372036854775807 (n : Int) = some (.int .i64 (9223372036854775807 - (n : Int))) := by
  have h1 : IntKind.i64.wrap (9223372036854775807 - (n : Int)) = 9223372036854775807 - (n : Int) := by rw [IntKind.wrap_i64]; omega
  show some (Value.int .i64 (IntKind.i64.wrap (9223372036854775807 - (n : Int)))) = _
  rw [h1]
/-- What was laid so far, once more is laid behind it. -/
theorem laid_more {cu : Array Value} {off : Nat} {done news : List Value} (h : cu.toList.take off = done) (hd : done.length = off) (hfit : off + news.length ≤ cu.size) :
    ((cu.toList.take off ++ news ++ cu.toList.drop (off + news.length)).toArray).toList.take (off + news.length) = done ++ news ∧ ((cu.toList.take off ++ news ++ cu.toList.drop (off + news.length)).toArray).size = cu.size := by
  have hl : (cu.toList.take off).length = off := by rw [h, hd]
  refine ⟨?_, ?_⟩
  · rw [List.toList_toArray, h]
    have : off + news.length = (done ++ news).length := by rw [List.length_append, hd]
    rw [this, List.take_left]
  · have h2 : (cu.toList.take off ++ news ++ cu.toList.drop (off + news.length)).length = cu.size := by
      have hc : cu.toList.length = cu.size := Array.length_toList
      rw [List.length_append, List.length_append, hl, List.length_drop]
      omega
    exact h2

theorem and_mask (z : Int) : ∃ m : Nat, m ≤ 1073741823 ∧ evalBin .and .i64 z 1073741823 = some (.int .i64 (m : Int)) := by
  refine ⟨(BitVec.ofInt 64 z &&& 1073741823#64).toNat, ?_, ?_⟩
  · rw [BitVec.toNat_and]
    exact Nat.le_trans Nat.and_le_right (by decide)
  · have h1 : (BitVec.ofInt 64 z &&& 1073741823#64).toNat ≤ 1073741823 := by
      rw [BitVec.toNat_and]
      exact Nat.le_trans Nat.and_le_right (by decide)
    have h2 : BitVec.ofInt IntKind.i64.bits 1073741823 = (1073741823#64 : BitVec 64) := rfl
    show some (Value.int .i64 (IntKind.i64.wrap ((BitVec.ofInt IntKind.i64.bits z &&& BitVec.ofInt IntKind.i64.bits 1073741823).toNat : Int))) = _
    rw [h2]
    exact congrArg (fun q => some (Value.int .i64 q)) (conv_i64 (BitVec.ofInt 64 z &&& 1073741823#64).toNat (by omega))

theorem ev_xor8 (x y : UInt8) : evalBin .xor .u8 (x.toNat : Int) (y.toNat : Int) = some (bv (x ^^^ y)) := by
  have h1 : ∀ c : UInt8, BitVec.ofInt IntKind.u8.bits (c.toNat : Int) = BitVec.ofNat 8 c.toNat := fun c => BitVec.ofInt_natCast ..
  show some (Value.int .u8 (IntKind.u8.wrap ((BitVec.ofInt IntKind.u8.bits (x.toNat : Int) ^^^ BitVec.ofInt IntKind.u8.bits (y.toNat : Int)).toNat : Int))) = _
  rw [h1, h1]
  have h2 : (BitVec.ofNat 8 x.toNat ^^^ BitVec.ofNat 8 y.toNat).toNat = (x ^^^ y).toNat := by
    rw [BitVec.toNat_xor, UInt8.toNat_xor, BitVec.toNat_ofNat, BitVec.toNat_ofNat, Nat.mod_eq_of_lt x.toNat_lt, Nat.mod_eq_of_lt y.toNat_lt]
  show some (Value.int .u8 (IntKind.u8.wrap (((BitVec.ofNat 8 x.toNat ^^^ BitVec.ofNat 8 y.toNat : BitVec 8)).toNat : Int))) = _
  rw [h2, IntKind.wrap_u8]
  have := (x ^^^ y).toNat_lt
  show some (Value.int .u8 _) = some (Value.int .u8 _)
  congr 2
  omega

theorem crcBit_inj {v w : BitVec 32} (h : crcBit v = crcBit w) : v = w := by
  have top : ∀ v : BitVec 32, (crcBit v).getLsbD 31 = v.getLsbD 0 := by
    intro v
    rw [crcBit_if]
    have hbit : v.getLsbD 0 = decide (v &&& 1#32 = 1#32) := by
      have h1 : (v &&& 1#32).toNat = v.toNat % 2 := by simp [BitVec.toNat_and, Nat.and_one_is_mod]
      have h2 : v.getLsbD 0 = decide (v.toNat % 2 = 1) := by simp [BitVec.getLsbD, Nat.testBit]; rfl
      rw [h2]
      congr 1
      apply propext
      constructor
      · intro hh; apply BitVec.eq_of_toNat_eq; rw [h1, hh]; rfl
      · intro hh; rw [← h1, hh]; rfl
    have hsh : (v >>> 1).getLsbD 31 = false := by simp
    by_cases hc : v &&& 1#32 = 1#32
    · rw [if_pos hc, BitVec.getLsbD_xor, hsh, hbit, decide_eq_true hc]; decide
    · rw [if_neg hc, hsh, hbit, decide_eq_false hc]
  have h0 : v.getLsbD 0 = w.getLsbD 0 := by rw [← top v, ← top w, h]
  have hm : v &&& 1#32 = w &&& 1#32 := by
    apply BitVec.eq_of_getLsbD_eq
    intro i hi
    simp only [BitVec.getLsbD_and]
    by_cases hi0 : i = 0
    · subst hi0; rw [h0]
    · have : (1#32 : BitVec 32).getLsbD i = false := by simp [BitVec.getLsbD_one]; omega
      rw [this]; simp
  have hs : v >>> 1 = w >>> 1 := by
    unfold crcBit at h
    rw [hm] at h
    have := congrArg (fun q => q ^^^ (0xedb88320#32 &&& -(w &&& 1#32))) h
    simpa [BitVec.xor_assoc] using this
  apply BitVec.eq_of_getLsbD_eq
  intro i hi
  by_cases hi0 : i = 0
  · subst hi0; exact h0
  · have h1 := congrArg (fun q => q.getLsbD (i - 1)) hs
    simp only [BitVec.getLsbD_ushiftRight] at h1
    rwa [show 1 + (i - 1) = i by omega] at h1

theorem crcBits_inj : ∀ (k : Nat) {v w : BitVec 32}, crcBits k v = crcBits k w → v = w
  | 0, _, _, h => h
  | k + 1, _, _, h => crcBit_inj (crcBits_inj k h)
theorem crcByte_inj {v w : BitVec 32} {b : UInt8} (h : crcByte v b = crcByte w b) : v = w := by
  have := crcBits_inj 8 h
  have h2 := congrArg (fun q => q ^^^ BitVec.ofNat 32 b.toNat) this
  simpa [BitVec.xor_assoc] using h2
theorem crcAll_inj : ∀ (l : List UInt8) {v w : BitVec 32}, crcAll v l = crcAll w l → v = w
  | [], _, _, h => h
  | b :: l, v, w, h => crcByte_inj (crcAll_inj l (v := crcByte v b) (w := crcByte w b) h)
theorem crcByte_ne {v : BitVec 32} {x y : UInt8} (h : x ≠ y) : crcByte v x ≠ crcByte v y := by
  intro he
  have h1 := crcBits_inj 8 he
  have h2 := congrArg (fun q => v ^^^ q) h1
  simp only [← BitVec.xor_assoc, BitVec.xor_self, BitVec.zero_xor] at h2
  apply h
  apply UInt8.toNat_inj.1
  have h3 := congrArg BitVec.toNat h2
  simp only [BitVec.toNat_ofNat] at h3
  have := x.toNat_lt
  have := y.toNat_lt
  omega
theorem crc_change (l : List UInt8) (j : Nat) (hj : j < l.length) (y : UInt8) (h : y ≠ l[j]) : crc (l.set j y) ≠ crc l := by
  have hl : l = l.take j ++ l[j] :: l.drop (j + 1) := by rw [← List.drop_eq_getElem_cons hj, List.take_append_drop]
  have hs : l.set j y = l.take j ++ y :: l.drop (j + 1) := List.set_eq_take_append_cons_drop.trans (by rw [if_pos hj])
  intro he
  unfold crc at he
  have h1 : crcAll 0xffffffff#32 (l.set j y) = crcAll 0xffffffff#32 l := by
    have := congrArg (fun q => ~~~ q) he
    simpa using this
  have h2 : crcAll 0xffffffff#32 (l.take j ++ y :: l.drop (j + 1)) = crcAll 0xffffffff#32 (l.take j ++ l[j] :: l.drop (j + 1)) := by rw [← hs, ← hl]; exact h1
  rw [crcAll_append, crcAll_append] at h2
  exact crcByte_ne h (crcAll_inj (l.drop (j + 1)) (v := crcByte _ y) (w := crcByte _ l[j]) h2)
theorem xor_ne {x y : UInt8} (h : y ≠ 0) : x ^^^ y ≠ x := by
  intro he
  apply h
  have := congrArg (fun q => x ^^^ q) he
  simpa [← UInt8.xor_assoc] using this
theorem uv_beq {a b : BitVec 32} (h : a = b) : ((a.toNat : Int) != (b.toNat : Int)) = false := by subst h; simp
theorem uv_ne {a b : BitVec 32} (h : a ≠ b) : ((a.toNat : Int) == (b.toNat : Int)) = false := by
  rw [beq_eq_false_iff_ne]
  intro he
  exact h (BitVec.eq_of_toNat_eq (by omega))

theorem flatten_snoc_len (rows : List (List UInt8)) (j : Nat) (hj : j < rows.length) : (rows.take (j + 1)).flatten.length = (rows.take j).flatten.length + rows[j].length := by
  rw [flatten_snoc rows j hj, List.length_append]

end Go.Proofs.YtaglgnjamihdnaaDoor.R
