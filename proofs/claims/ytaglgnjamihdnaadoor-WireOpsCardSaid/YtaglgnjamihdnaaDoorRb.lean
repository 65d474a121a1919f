/- The call's own memory told by a list of its blocks; what stands in no list and was there before stays as it was. They speak of any program. -/
import Derived.Test.YtaglgnjamihdnaaDoorRa
namespace Go.Proofs.YtaglgnjamihdnaaDoor.R
open Go Go.RowKit

/-- A block and what lies in it. -/
abbrev Chunk := Nat × Obj

def idsOf (Gs : List (List Chunk)) : List Nat := Gs.flatten.map (·.1)

/-- From w0 on only the blocks F and new ones were touched; the groups Gs are what is known of these. -/
structure St (w0 : World) (F : List Nat) (Gs : List (List Chunk)) (w : World) : Prop where
  os : w.os = w0.os
  tape : w.tape = w0.tape
  output : w.output = w0.output
  size : w0.heap.size ≤ w.heap.size
  keep : ∀ k, k < w0.heap.size → k ∉ F → w.heap[k]? = w0.heap[k]?
  here : ∀ c ∈ Gs.flatten, w.heap[c.1]? = some c.2
  nodup : (idsOf Gs).Nodup
  own : ∀ b ∈ idsOf Gs, b ∈ F ∨ w0.heap.size ≤ b

theorem St.start (w : World) : St w [] [] w := ⟨rfl, rfl, rfl, Nat.le_refl _, fun _ _ _ => rfl, by simp, by simp [idsOf], by simp [idsOf]⟩

/-- What a call is given. -/
abbrev Own (Gs : List (List Chunk)) (w : World) : Prop := St w (idsOf Gs) Gs w

section
variable {w0 w w' : World} {F : List Nat} {A B C Gs : List (List Chunk)} {G G1 G2 G3 G4 G5 G6 : List Chunk}

theorem St.perm (h : St w0 F A w) (hp : A.flatten.Perm B.flatten) : St w0 F B w :=
  ⟨h.os, h.tape, h.output, h.size, h.keep, fun c hc => h.here c (hp.mem_iff.2 hc), (List.Perm.nodup_iff (List.Perm.map (fun c : Chunk => c.1) hp)).1 h.nodup, fun b hb => h.own b ((List.Perm.mem_iff (List.Perm.map (fun c : Chunk => c.1) hp)).2 hb)⟩

theorem St.ofPerm (h : St w0 F A w) (hp : A.Perm B) : St w0 F B w := h.perm hp.flatten

theorem St.f1 (h : St w0 F (G1 :: G2 :: Gs) w) : St w0 F (G2 :: G1 :: Gs) w := h.ofPerm (.swap ..)
theorem St.f2 (h : St w0 F (G1 :: G2 :: G3 :: Gs) w) : St w0 F (G3 :: G1 :: G2 :: Gs) w :=
  h.ofPerm (((List.Perm.swap G3 G2 Gs).cons G1).trans (.swap ..))
theorem St.f3 (h : St w0 F (G1 :: G2 :: G3 :: G4 :: Gs) w) : St w0 F (G4 :: G1 :: G2 :: G3 :: Gs) w :=
  h.ofPerm (((((List.Perm.swap G4 G3 Gs).cons G2).trans (.swap ..)).cons G1).trans (.swap ..))
theorem St.f4 (h : St w0 F (G1 :: G2 :: G3 :: G4 :: G5 :: Gs) w) : St w0 F (G5 :: G1 :: G2 :: G3 :: G4 :: Gs) w :=
  h.ofPerm (((((((List.Perm.swap G5 G4 Gs).cons G3).trans (.swap ..)).cons G2).trans (.swap ..)).cons G1).trans (.swap ..))
theorem St.f5 (h : St w0 F (G1 :: G2 :: G3 :: G4 :: G5 :: G6 :: Gs) w) : St w0 F (G6 :: G1 :: G2 :: G3 :: G4 :: G5 :: Gs) w :=
  h.ofPerm (((((((((List.Perm.swap G6 G5 Gs).cons G4).trans (.swap ..)).cons G3).trans (.swap ..)).cons G2).trans (.swap ..)).cons G1).trans (.swap ..))

/-- A group of two parts, as two groups; and back. -/
theorem St.split (h : St w0 F ((G1 ++ G2) :: Gs) w) : St w0 F (G1 :: G2 :: Gs) w := h.perm (by simp)
theorem St.join (h : St w0 F (G1 :: G2 :: Gs) w) : St w0 F ((G1 ++ G2) :: Gs) w := h.perm (by simp)
theorem St.empty (h : St w0 F Gs w) : St w0 F ([] :: Gs) w := h.perm (by simp)

/-- What isn't needed any more is forgotten. -/
theorem St.drop (h : St w0 F (G :: Gs) w) : St w0 F Gs w := by
  refine ⟨h.os, h.tape, h.output, h.size, h.keep, fun c hc => h.here c (by simp only [List.flatten_cons, List.mem_append]; exact .inr hc), ?_, fun b hb => h.own b (by simp only [idsOf, List.flatten_cons, List.map_append, List.mem_append]; exact .inr hb)⟩
  have := h.nodup
  simp only [idsOf, List.flatten_cons, List.map_append] at this
  exact (List.nodup_append.1 this).2.1

theorem St.below (h : St w0 [] Gs w) : Below w0.heap.size w0 w := ⟨h.os, h.tape, h.output, h.size, fun k hk => h.keep k hk (by simp)⟩

theorem St.block_lt {c : Chunk} (h : St w0 F Gs w) (hc : c ∈ Gs.flatten) : c.1 < w.heap.size := by
  have := h.here c hc
  exact (Array.getElem?_eq_some_iff.1 this).1

theorem mem_idsOf {b : Nat} : b ∈ idsOf Gs ↔ ∃ o, (b, o) ∈ Gs.flatten := by
  simp only [idsOf, List.mem_map]
  constructor
  · rintro ⟨⟨b', o⟩, hm, rfl⟩; exact ⟨o, hm⟩
  · rintro ⟨o, hm⟩; exact ⟨(b, o), hm, rfl⟩

/-- The first groups alone, as a call gets them. -/
theorem St.sub (h : St w0 F (A ++ B) w) : Own A w := by
  refine ⟨rfl, rfl, rfl, Nat.le_refl _, fun _ _ _ => rfl, fun c hc => h.here c (by simp only [List.flatten_append, List.mem_append]; exact .inl hc), ?_, fun b hb => .inl hb⟩
  have := h.nodup
  simp only [idsOf, List.flatten_append, List.map_append] at this
  exact (List.nodup_append.1 this).1

theorem St.own0 (_ : St w0 F Gs w) : Own [] w := St.start w
theorem St.own1 (h : St w0 F (G1 :: Gs) w) : Own [G1] w := St.sub (A := [G1]) (B := Gs) h
theorem St.own2 (h : St w0 F (G1 :: G2 :: Gs) w) : Own [G1, G2] w := St.sub (A := [G1, G2]) (B := Gs) h
theorem St.own3 (h : St w0 F (G1 :: G2 :: G3 :: Gs) w) : Own [G1, G2, G3] w := St.sub (A := [G1, G2, G3]) (B := Gs) h

/-- Behind a call that got the first groups. -/
theorem St.after (h : St w0 F (A ++ B) w) (k : St w (idsOf A) C w') : St w0 F (C ++ B) w' := by
  have hnd := h.nodup
  simp only [idsOf, List.flatten_append, List.map_append] at hnd
  have hnd' := List.nodup_append.1 hnd
  have hB : ∀ c ∈ B.flatten, w'.heap[c.1]? = some c.2 := by
    intro c hc
    have hin : c ∈ (A ++ B).flatten := by simp only [List.flatten_append, List.mem_append]; exact .inr hc
    rw [k.keep c.1 (h.block_lt hin) (fun hb => hnd'.2.2 c.1 hb c.1 (List.mem_map.2 ⟨c, hc, rfl⟩) rfl)]
    exact h.here c hin
  have hC : ∀ b ∈ idsOf C, b ∈ idsOf A ∨ w.heap.size ≤ b := k.own
  refine ⟨k.os.trans h.os, k.tape.trans h.tape, k.output.trans h.output, Nat.le_trans h.size k.size, ?_, ?_, ?_, ?_⟩
  · intro b hb hF
    rw [k.keep b (Nat.lt_of_lt_of_le hb h.size) ?_]
    · exact h.keep b hb hF
    · intro hbA
      have hbAB : b ∈ idsOf (A ++ B) := by simp only [idsOf, List.flatten_append, List.map_append, List.mem_append]; exact .inl hbA
      rcases h.own b hbAB with h1 | h1
      · exact hF h1
      · omega
  · intro c hc
    simp only [List.flatten_append, List.mem_append] at hc
    rcases hc with hc | hc
    · exact k.here c hc
    · exact hB c hc
  · simp only [idsOf, List.flatten_append, List.map_append]
    refine List.nodup_append.2 ⟨k.nodup, hnd'.2.1, ?_⟩
    rintro b hb b' hb' rfl
    rcases hC b hb with h1 | h1
    · exact hnd'.2.2 b h1 b hb' rfl
    · obtain ⟨c, hc, rfl⟩ := List.mem_map.1 hb'
      have := h.block_lt (c := c) (by simp only [List.flatten_append, List.mem_append]; exact .inr hc)
      omega
  · intro b hb
    simp only [idsOf, List.flatten_append, List.map_append, List.mem_append] at hb
    rcases hb with hb | hb
    · rcases hC b hb with h1 | h1
      · exact h.own b (by simp only [idsOf, List.flatten_append, List.map_append, List.mem_append]; exact .inl h1)
      · have := h.size; exact .inr (by omega)
    · exact h.own b (by simp only [idsOf, List.flatten_append, List.map_append, List.mem_append]; exact .inr hb)

theorem St.after0 (h : St w0 F Gs w) (k : St w [] C w') : St w0 F (C ++ Gs) w' := St.after (A := []) h k
theorem St.after1 (h : St w0 F (G1 :: Gs) w) (k : St w (idsOf [G1]) C w') : St w0 F (C ++ Gs) w' := St.after (A := [G1]) h k
theorem St.after2 (h : St w0 F (G1 :: G2 :: Gs) w) (k : St w (idsOf [G1, G2]) C w') : St w0 F (C ++ Gs) w' := St.after (A := [G1, G2]) h k
theorem St.after3 (h : St w0 F (G1 :: G2 :: G3 :: Gs) w) (k : St w (idsOf [G1, G2, G3]) C w') : St w0 F (C ++ Gs) w' := St.after (A := [G1, G2, G3]) h k

/-- Further steps of the same call. -/
theorem St.more (h : St w0 F Gs w) (k : St w (idsOf Gs) C w') : St w0 F C w' := by
  have := St.after (A := Gs) (B := []) (C := C) (by simpa using h) k
  simpa using this

/-! ### reading -/

/-- Cells from an address on. -/
def Rd (w : World) (A : Option Addr) (vs : List Value) : Prop := ∀ i v, vs[i]? = some v → ∃ a, A = some a ∧ w.cell? (a.add i) = some v

def Apart (A : Option Addr) (vs : List Value) (F : List Nat) : Prop := vs ≠ [] → ∀ a, A = some a → a.block ∉ F

@[simp] theorem add_block (a : Addr) (i : Nat) : (a.add i).block = a.block := by unfold Addr.add; split <;> rfl

theorem Rd.cell {w : World} {ad : Addr} {vs : List Value} {j : Nat} {v : Value} (h : Rd w (some ad) vs) (hv : vs[j]? = some v) : w.cell? (ad.add j) = some v := by
  obtain ⟨a, ha, hc⟩ := h j v hv
  cases ha
  exact hc

theorem Rd.nil (w : World) (A : Option Addr) : Rd w A [] := fun i v h => by simp at h

theorem Rd.lt {A : Option Addr} {vs : List Value} (h : Rd w A vs) (hne : vs ≠ []) {a : Addr} (ha : A = some a) : a.block < w.heap.size := by
  cases vs with
  | nil => exact (hne rfl).elim
  | cons v r =>
    obtain ⟨b, hb, hc⟩ := h 0 v (by simp)
    rw [ha] at hb
    cases hb
    have := World.block_lt_of_cell? w _ hc
    simpa using this

theorem St.rd {A : Option Addr} {vs : List Value} (h : St w0 F Gs w) (hr : Rd w0 A vs) (ha : Apart A vs F) : Rd w A vs := fun i v hv => by
  obtain ⟨a, rfl, hc⟩ := hr i v hv
  have hne : vs ≠ [] := by rintro rfl; simp at hv
  refine ⟨a, rfl, ?_⟩
  rw [World.cell?_of_block (w := w0) (h.keep _ (by have := World.block_lt_of_cell? w0 _ hc; simpa using this) (by simpa using ha hne a rfl))]
  exact hc

theorem Apart.of_nil (A : Option Addr) (vs : List Value) : Apart A vs [] := fun _ _ _ => by simp

/-- What was there before lies apart from the call's own. -/
theorem St.apart {A : Option Addr} {vs : List Value} (h : St w0 F Gs w) (hr : Rd w0 A vs) (ha : Apart A vs F) : Apart A vs (idsOf Gs) := fun hne a hA hin => by
  have hlt := hr.lt hne hA
  rcases h.own _ hin with h1 | h1
  · exact ha hne a hA h1
  · omega

theorem Apart.sub {A : Option Addr} {vs : List Value} {F' : List Nat} (h : Apart A vs F) (hs : ∀ b ∈ F', b ∈ F) : Apart A vs F' := fun hne a hA hin => h hne a hA (hs _ hin)

theorem Apart.sub' {A : Option Addr} {vs vs' : List Value} {F' : List Nat} (h : Apart A vs F) (hv : vs ≠ []) (hs : ∀ b ∈ F', b ∈ F) : Apart A vs' F' := fun _ a hA hin => h hv a hA (hs _ hin)

theorem ids_cons : idsOf (G :: Gs) = idsOf [G] ++ idsOf Gs := by simp [idsOf]

/-- The cells of the first group's block lie apart from the other groups. -/
theorem St.apart_first {b : Nat} {o : Obj} {off : Nat} {sp : Option Nat} {vs : List Value} (h : St w0 F ([(b, o)] :: Gs) w) : Apart (some ⟨b, off, sp⟩) vs (idsOf Gs) := fun _ a hA hin => by
  cases hA
  have := h.nodup
  rw [ids_cons] at this
  exact (List.nodup_append.1 this).2.2 b (by simp [idsOf]) b hin rfl

theorem St.first {b : Nat} {o : Obj} (h : St w0 F ([(b, o)] :: Gs) w) : w.heap[b]? = some o := h.here (b, o) (by simp)

theorem St.cell {b : Nat} {c : Array Value} {e : TypeId} {fz : Nat × Nat} {off : Nat} {v : Value} (h : St w0 F ([(b, .cells c e fz)] :: Gs) w) (hc : c[off]? = some v) : w.cell? ⟨b, off, none⟩ = some v := by
  simp [World.cell?, h.first, hc]

theorem add_lit (b off i : Nat) : (⟨b, off, none⟩ : Addr).add i = ⟨b, off + i, none⟩ := by unfold Addr.add; split <;> simp_all

theorem St.rdCells {b : Nat} {c : Array Value} {e : TypeId} {fz : Nat × Nat} {off : Nat} {vs : List Value} (h : St w0 F ([(b, .cells c e fz)] :: Gs) w)
    (hc : ∀ i v, vs[i]? = some v → c[off + i]? = some v) : Rd w (some ⟨b, off, none⟩) vs := fun i v hv => ⟨_, rfl, by rw [add_lit]; exact h.cell (hc i v hv)⟩

theorem St.rdAll {b : Nat} {c : Array Value} {e : TypeId} {fz : Nat × Nat} (h : St w0 F ([(b, .cells c e fz)] :: Gs) w) : Rd w (some ⟨b, 0, none⟩) c.toList :=
  h.rdCells (fun i v hv => by simpa using hv)

/-! ### writing -/

theorem heap_setCell_at {b : Nat} {c : Array Value} {e : TypeId} {fz : Nat × Nat} (hb : w.heap[b]? = some (.cells c e fz)) (off : Nat) (v : Value) :
    (w.setCell ⟨b, off, none⟩ v).heap[b]? = some (.cells (c.setIfInBounds off v) e fz) := by
  simp [World.setCell, Array.getElem?_modify, hb]

theorem heap_setCell_far (a : Addr) (v : Value) {k : Nat} (hk : k ≠ a.block) : (w.setCell a v).heap[k]? = w.heap[k]? := by
  simp only [World.setCell, Array.getElem?_modify]
  rw [if_neg (by omega)]

/-- One block turns. -/
theorem St.turn {b : Nat} {o o' : Obj} (h : St w0 F ([(b, o)] :: Gs) w) (hos : w'.os = w.os) (ht : w'.tape = w.tape) (hou : w'.output = w.output) (hs : w'.heap.size = w.heap.size)
    (hb : w'.heap[b]? = some o') (hk : ∀ k, k ≠ b → w'.heap[k]? = w.heap[k]?) : St w0 F ([(b, o')] :: Gs) w' := by
  refine St.after1 (C := [[(b, o')]]) h ⟨hos, ht, hou, by omega, fun k _ hkF => hk k (by simpa [idsOf] using hkF), ?_, by simp [idsOf], fun k hk => .inl (by simpa [idsOf] using hk)⟩
  intro c hc
  simp at hc
  subst hc
  exact hb

theorem St.setCell {b : Nat} {c : Array Value} {e : TypeId} {fz : Nat × Nat} (h : St w0 F ([(b, .cells c e fz)] :: Gs) w) (off : Nat) (v : Value) :
    St w0 F ([(b, .cells (c.setIfInBounds off v) e fz)] :: Gs) (w.setCell ⟨b, off, none⟩ v) :=
  h.turn rfl rfl rfl (by simp [World.setCell]) (heap_setCell_at h.first off v) (fun _ hk => heap_setCell_far _ v hk)

theorem ids_sub {Gs Gs' : List (List Chunk)} (h : ∀ G ∈ Gs', G ∈ Gs) : ∀ b ∈ idsOf Gs', b ∈ idsOf Gs := fun b hb => by
  obtain ⟨o, ho⟩ := mem_idsOf.1 hb
  obtain ⟨G, hG, hin⟩ := List.mem_flatten.1 ho
  exact mem_idsOf.2 ⟨o, List.mem_flatten.2 ⟨G, h G hG, hin⟩⟩

/-- A new block. -/
theorem St.alloc (h : St w0 F Gs w) (o : Obj) : St w0 F ([(w.heap.size, o)] :: Gs) (w.alloc o) := by
  refine St.after0 (C := [[(w.heap.size, o)]]) h ⟨rfl, rfl, rfl, by simp, fun k hk _ => heap_alloc_old w o hk, ?_, by simp [idsOf], fun k hk => .inr (by simp [idsOf] at hk; omega)⟩
  intro c hc
  simp at hc
  subst hc
  exact heap_alloc_new w o

/-- An answer is drawn. -/
theorem St.drew (h : St w0 F Gs w) : St w0 F Gs w.drew := ⟨h.os, h.tape, h.output, h.size, h.keep, h.here, h.nodup, h.own⟩

/-- Behind a law of the kit that ends in 'grownBy'. -/
theorem St.grown {b : Nat} {o o' : Obj} (h : St w0 F ([(b, o)] :: Gs) w) (hg : w.grownBy w' (some b)) (hb : w'.heap[b]? = some o') : St w0 F ([(b, o')] :: Gs) w' := by
  refine St.after1 (C := [[(b, o')]]) h ⟨hg.os, hg.tape, hg.output, hg.size, fun k hk hkF => hg.block k hk (by simp [idsOf] at hkF; simpa using hkF), ?_, by simp [idsOf], fun k hk => .inl (by simpa [idsOf] using hk)⟩
  intro c hc
  simp at hc
  subst hc
  exact hb

end

/-! ### a slice that the call owns -/

/-- v has n elements (of e, size cells each), the cells xs; it owns the group G. -/
def Row (e : TypeId) (size : Nat) (v : Value) (n : Nat) (xs : List Value) (G : List Chunk) : Prop :=
  xs.length = n * size ∧
  ((v = .slice none 0 0 ∧ n = 0 ∧ G = []) ∨
   ∃ g cap cur, v = .slice (some ⟨g, 0, none⟩) n cap ∧ G = [(g, .cells cur e (0, 0))] ∧ n ≤ cap ∧ cap ≤ maxLen ∧ cap * size ≤ cur.size ∧ cur.toList.take (n * size) = xs)

theorem Row.nil (e : TypeId) (size : Nat) : Row e size (.slice none 0 0) 0 [] [] := ⟨by simp, .inl ⟨rfl, rfl, rfl⟩⟩

section
variable {w0 w w' : World} {F : List Nat} {Gs : List (List Chunk)} {G : List Chunk} {e : TypeId} {size : Nat} {v : Value} {n : Nat} {xs : List Value}

theorem Row.form (h : Row e size v n xs G) : ∃ A c, v = .slice A n c ∧ n ≤ c ∧ c ≤ maxLen := by
  rcases h.2 with ⟨rfl, rfl, _⟩ | ⟨g, cap, cur, rfl, _, h1, h2, _⟩
  · exact ⟨none, 0, rfl, Nat.le_refl _, by simp [maxLen]⟩
  · exact ⟨_, _, rfl, h1, h2⟩

theorem Row.one (h : Row e size v n xs G) : v.oneCell' = true := by
  obtain ⟨A, c, rfl, _⟩ := h.form
  rfl

theorem Row.rd (h : Row e size v n xs G) (hS : St w0 F (G :: Gs) w) : ∃ A c, v = .slice A n c ∧ n ≤ c ∧ c ≤ maxLen ∧ Rd w A xs ∧ Apart A xs (idsOf Gs) := by
  rcases h.2 with ⟨rfl, rfl, rfl⟩ | ⟨g, cap, cur, rfl, rfl, h1, h2, _, h3⟩
  · have : xs = [] := List.eq_nil_of_length_eq_zero (by simpa using h.1)
    subst this
    exact ⟨none, 0, rfl, Nat.le_refl _, by simp [maxLen], Rd.nil _ _, fun hne => (hne rfl).elim⟩
  · refine ⟨_, _, rfl, h1, h2, hS.rdCells (fun i u hu => ?_), hS.apart_first⟩
    rw [← h3, List.getElem?_take] at hu
    split at hu
    · simpa using hu
    · cases hu

theorem Row.made {b cap : Nat} {cur : Array Value} (hm : cap ≤ maxLen) (hs : cap * size ≤ cur.size) : Row e size (.slice (some ⟨b, 0, none⟩) 0 cap) 0 [] [(b, .cells cur e (0, 0))] :=
  ⟨by simp, .inr ⟨b, cap, cur, rfl, rfl, Nat.zero_le _, hm, hs, by simp⟩⟩

theorem Row.full {b n : Nat} {cur : Array Value} (hm : n ≤ maxLen) (hs : cur.size = n * size) : Row e size (.slice (some ⟨b, 0, none⟩) n n) n cur.toList [(b, .cells cur e (0, 0))] :=
  ⟨by simpa using hs, .inr ⟨b, n, cur, rfl, rfl, Nat.le_refl _, hm, Nat.le_of_eq hs.symm, by rw [List.take_of_length_le (by simp [hs])]⟩⟩

theorem St.setRow {b : Nat} {c c' : Array Value} {t : TypeId} {fz : Nat × Nat} (h : St w0 F ([(b, .cells c t fz)] :: Gs) w) : St w0 F ([(b, .cells c' t fz)] :: Gs) (w.setRow b c') :=
  h.turn rfl rfl rfl (by simp [World.setRow]) (setRow_heap w b c c' t fz h.first) (fun k hk => setRow_other w b k c' hk)

theorem size_zeroCells' (z : Array Value) (n : Nat) : (Builtin.zeroCells z n).size = n * z.size := by simp [Builtin.zeroCells]

/-- Appended to: in its own place, or in a new one. -/
theorem Row.append {P : Program} (t ty : TypeId) (i : TypeInfo) (z : Value) (bytes : Nat) (ht : P.underlying t = some (.slice e)) (hi : P.info? e = some i) (hz : i.zero = some z)
    (hsize : i.size = size) (hby : i.bytes = bytes) (hzs : z.cells.size = size) (hsz : 0 < size)
    (hS : St w0 F (G :: Gs) w) (h : Row e size v n xs G) {A : Option Addr} {m c : Nat} {news : List Value} (hl : news.length = m * size) (hr : Rd w A news) (h1 : ∀ u ∈ news, u.oneCell' = true)
    (h63 : n + m ≤ maxLen) (hbytes : (n + m) * bytes ≤ 140737488355328) :
    ∃ v' w' G', (Builtin.append_ #[t, t] ty #[v, .slice A m c]).run P w = .ok v' w' ∧ Row e size v' (n + m) (xs ++ news) G' ∧ St w0 F (G' :: Gs) w' := by
  subst hsize
  subst hby
  have hsmall : n + m ≤ 9223372036854775807 := by simp only [maxLen] at h63; omega
  have hlen : (xs ++ news).length = (n + m) * i.size := by rw [List.length_append, h.1, hl, Nat.add_mul]
  have new : ∀ old, St w0 F ([(w.heap.size, .cells (xs.toArray ++ news.toArray ++ Builtin.zeroCells z.cells (grownCap w (n + m) old e - (n + m))) e (0, 0))] :: Gs)
        (w.drew.alloc (.cells (xs.toArray ++ news.toArray ++ Builtin.zeroCells z.cells (grownCap w (n + m) old e - (n + m))) e)) ∧
      Row e i.size (.slice (some ⟨w.heap.size, 0, none⟩) (n + m) (grownCap w (n + m) old e)) (n + m) (xs ++ news) [(w.heap.size, .cells (xs.toArray ++ news.toArray ++ Builtin.zeroCells z.cells (grownCap w (n + m) old e - (n + m))) e (0, 0))] := by
    intro old
    have hge := grownCap_ge w (n + m) old e
    have hcm : grownCap w (n + m) old e ≤ maxLen := grownCap_le_maxLen w (n + m) old e h63
    refine ⟨hS.drop.drew.alloc _, hlen, .inr ⟨_, _, _, rfl, rfl, hge, hcm, ?_, ?_⟩⟩
    · simp only [Array.size_append, List.size_toArray, size_zeroCells', hzs, h.1, hl, ← Nat.add_mul]
      exact Nat.mul_le_mul_right _ (by omega)
    · simp only [Array.toList_append, List.append_assoc]
      rw [← List.append_assoc, ← hlen]
      exact List.take_left
  cases A with
  | none =>
    have hn : news = [] := by
      cases news with
      | nil => rfl
      | cons u r => obtain ⟨a, ha, _⟩ := hr 0 u (by simp); cases ha
    subst hn
    have hm : m = 0 := by
      rcases Nat.eq_zero_or_pos m with h | h
      · exact h
      · have := Nat.mul_pos h hsz; simp at hl; omega
    subst hm
    refine ⟨v, w, G, ?_, by simpa using h, hS⟩
    obtain ⟨A', c', rfl, hc1, _⟩ := h.form
    cases A' <;> simp [Builtin.append_, run_underlying ht, sizeOf, typeInfo, hi, Builtin.lenOf, Builtin.firstCells, hc1, storeCells]
  | some a =>
    have hnews : ∀ j u, news[j]? = some u → w.cell? (a.add j) = some u := fun j u hu => by
      obtain ⟨b, hb, hc⟩ := hr j u hu
      cases hb
      exact hc
    rcases h.2 with ⟨rfl, rfl, rfl⟩ | ⟨g, cap, cur, rfl, rfl, hnc, hcm, hcs, htake⟩
    · have hx : xs = [] := List.eq_nil_of_length_eq_zero (by simpa using h.1)
      subst hx
      by_cases hm : m = 0
      · subst hm
        have hn : news = [] := List.eq_nil_of_length_eq_zero (by simpa using hl)
        subst hn
        refine ⟨.slice none 0 0, w, [], ?_, Row.nil e i.size, hS⟩
        simp [Builtin.append_, run_underlying ht, sizeOf, typeInfo, hi, Builtin.lenOf, Builtin.firstCells, loadCells, loadCellsFrom]
      · have hrun := run_append_nil (P := P) w t ty e i z ht hi hz a m c news hl hnews (by omega) (by omega) (by have hb := hbytes; simp only [Nat.zero_add] at hb; omega)
        obtain ⟨h1', h2'⟩ := new 0
        simp only [Nat.zero_add, List.nil_append, Array.empty_append] at h1' h2' ⊢
        exact ⟨_, _, _, hrun, h2', h1'⟩
    · by_cases hroom : n + m ≤ cap
      · have hfit : n * i.size + news.length ≤ cur.size := by
          have := Nat.mul_le_mul_right i.size hroom
          rw [hl, ← Nat.add_mul]
          omega
        have hrun := run_append_room (P := P) w t ty e i ht hi g n cap cur hS.first a m c news hl hnews h1 hroom hfit
        refine ⟨_, _, _, hrun, ⟨hlen, .inr ⟨g, cap, _, rfl, rfl, hroom, hcm, ?_, ?_⟩⟩, hS.setRow⟩
        · simp only [List.size_toArray, List.length_append, List.length_take, List.length_drop, Array.length_toList]
          omega
        · rw [htake, ← hlen]
          exact List.take_left
      · obtain ⟨A', c', hA, _, _, hrd, _⟩ := h.rd hS
        cases hA
        have holds : ∀ j u, xs[j]? = some u → w.cell? ((⟨g, 0, none⟩ : Addr).add j) = some u := fun j u hu => by
          obtain ⟨b, hb, hc⟩ := hrd j u hu
          cases hb
          exact hc
        have hrun := run_append_grow (P := P) w t ty e i z ht hi hz ⟨g, 0, none⟩ n cap xs h.1 holds a m c news hl hnews (by omega) (by omega) (growslice_fits (by omega) hbytes)
        obtain ⟨h1', h2'⟩ := new cap
        exact ⟨_, _, _, hrun, h2', h1'⟩
end

/-! ### rows that came in: a slice of slices -/

/-- What reads as rows of one-cell elements, all apart from F. -/
def RdRows (w : World) (A : Option Addr) (rows : List (List Value)) (F : List Nat) : Prop :=
  ∃ vs : List Value, vs.length = rows.length ∧ Rd w A vs ∧ Apart A vs F ∧ ∀ (i : Nat) (xs : List Value), rows[i]? = some xs → ∃ (Ai : Option Addr) (ci : Nat), vs[i]? = some (Value.slice Ai xs.length ci) ∧ Rd w Ai xs ∧ Apart Ai xs F

theorem RdRows.st {w0 w : World} {F : List Nat} {Gs : List (List Chunk)} {A : Option Addr} {rows : List (List Value)} (h : RdRows w0 A rows F) (hS : St w0 F Gs w) : RdRows w A rows F := by
  obtain ⟨vs, h1, h2, h3, h4⟩ := h
  refine ⟨vs, h1, hS.rd h2 h3, h3, fun i xs hx => ?_⟩
  obtain ⟨Ai, ci, h5, h6, h7⟩ := h4 i xs hx
  exact ⟨Ai, ci, h5, hS.rd h6 h7, h7⟩

/-- Handed on to a call. -/
theorem RdRows.hand {w0 w : World} {F F' : List Nat} {Gs : List (List Chunk)} {A : Option Addr} {rows : List (List Value)} (h : RdRows w0 A rows F) (hS : St w0 F Gs w) (hF : ∀ b ∈ F', b ∈ idsOf Gs) : RdRows w A rows F' := by
  obtain ⟨vs, h1, h2, h3, h4⟩ := h
  refine ⟨vs, h1, hS.rd h2 h3, (hS.apart h2 h3).sub hF, fun i xs hx => ?_⟩
  obtain ⟨Ai, ci, h5, h6, h7⟩ := h4 i xs hx
  exact ⟨Ai, ci, h5, hS.rd h6 h7, (hS.apart h6 h7).sub hF⟩

theorem RdRows.at {w : World} {F : List Nat} {A : Option Addr} {rows : List (List Value)} (h : RdRows w A rows F) (i : Nat) (hi : i < rows.length) :
    ∃ (vs : List Value) (Ai : Option Addr) (ci : Nat), Rd w A vs ∧ vs[i]? = some (Value.slice Ai rows[i].length ci) ∧ Rd w Ai rows[i] ∧ Apart Ai rows[i] F := by
  obtain ⟨vs, h1, h2, h3, h4⟩ := h
  obtain ⟨Ai, ci, h5, h6, h7⟩ := h4 i rows[i] (by simp [hi])
  exact ⟨vs, Ai, ci, h2, h5, h6, h7⟩

theorem Row.take {e : TypeId} {size : Nat} {A : Option Addr} {n c : Nat} {xs : List Value} {G : List Chunk} (h : Row e size (.slice A n c) n xs G) {k : Nat} (hk : k ≤ n) : Row e size (.slice A k c) k (xs.take (k * size)) G := by
  obtain ⟨h0, h1⟩ := h
  have hle : k * size ≤ n * size := Nat.mul_le_mul_right _ hk
  refine ⟨by rw [List.length_take]; omega, ?_⟩
  rcases h1 with ⟨hv, hn, hG⟩ | ⟨g, cap, cur, hv, hG, h2, h3, h4, h5⟩
  · cases hv
    have : k = 0 := by omega
    subst this
    exact .inl ⟨rfl, rfl, hG⟩
  · cases hv
    refine .inr ⟨g, c, cur, rfl, hG, by omega, h3, h4, ?_⟩
    rw [← h5, List.take_take, Nat.min_eq_left hle]

theorem Row.set {e : TypeId} {g n cap : Nat} {cur : Array Value} {xs : List Value} (h : Row e 1 (.slice (some ⟨g, 0, none⟩) n cap) n xs [(g, .cells cur e (0, 0))]) (j : Nat) (u : Value) :
    Row e 1 (.slice (some ⟨g, 0, none⟩) n cap) n (xs.set j u) [(g, .cells (cur.setIfInBounds j u) e (0, 0))] := by
  obtain ⟨h0, h1⟩ := h
  refine ⟨by simpa using h0, ?_⟩
  rcases h1 with ⟨hv, _, _⟩ | ⟨g', cap', cur', hv, hG, h2, h3, h4, h5⟩
  · cases hv
  · cases hv
    cases hG
    refine .inr ⟨g, cap, _, rfl, rfl, h2, h3, by simpa using h4, ?_⟩
    rw [← h5]
    simp [List.take_set]

end Go.Proofs.YtaglgnjamihdnaaDoor.R
