/- Things in memory side by side: each has blocks of its own, and a call turns those of one alone. For any program. -/
import Derived.Test.YtchilnjocnkodaaGreatApp
namespace Go.Proofs.YtchilnjocnkodaaGreat
open Go.RowKit

/-- A word on a world and on the blocks that it speaks of. -/
abbrev Asr := World → (Nat → Prop) → Prop
/-- It abides what turns none of its blocks. -/
def Loc (A : Asr) : Prop := ∀ (w w' : World) (S T : Nat → Prop), A w S → Fr T w w' → (∀ k, S k → ¬ T k) → A w' S
/-- Nothing. -/
def Emp : Asr := fun _ _ => True
/-- Both, side by side. -/
def Star (A B : Asr) : Asr := fun w U => ∃ S T, A w S ∧ B w T ∧ (∀ k, S k → ¬ T k) ∧ (∀ k, S k → U k) ∧ (∀ k, T k → U k)

theorem loc_emp : Loc Emp := fun _ _ _ _ _ _ _ => trivial
theorem loc_star {A B : Asr} (ha : Loc A) (hb : Loc B) : Loc (Star A B) := by
  rintro w w' U T ⟨S1, S2, h1, h2, h3, h4, h5⟩ hf hT
  exact ⟨S1, S2, ha w w' S1 T h1 hf (fun k hk => hT k (h4 k hk)), hb w w' S2 T h2 hf (fun k hk => hT k (h5 k hk)), h3, h4, h5⟩

/-- What a call does to a thing: it turns its blocks, and makes new ones. -/
def Tri (P : Program) (f : FuncId) (args : Array Value) (w : World) (A : Asr) (Q : Ending → Prop) (A' : Asr) : Prop :=
  ∀ S, A w S → (∀ k, S k → k < w.heap.size) → Calls P f args w fun e w' => Q e ∧ A' w' (Plus S w w') ∧ Fr S w w'

section
variable {P : Program} {f : FuncId} {args : Array Value} {w w' w0 : World} {A A' B B' C : Asr} {Q : Ending → Prop}

theorem Tri.left (hB : Loc B) (h : Tri P f args w A Q A') : Tri P f args w (Star A B) Q (Star A' B) := by
  rintro U ⟨S, T, h1, h2, h3, h4, h5⟩ hU
  refine (h S h1 (fun k hk => hU k (h4 k hk))).mono ?_
  rintro e w1 ⟨hq, ha, hf⟩
  refine ⟨hq, ⟨Plus S w w1, T, ha, hB w w1 T S h2 hf (fun k hk hs => h3 k hs hk), ?_, ?_, fun k hk => .inl (h5 k hk)⟩, hf.mono h4⟩
  · rintro k (hk | ⟨hk, _⟩) ht
    · exact h3 k hk ht
    · have := hU k (h5 k ht); omega
  · rintro k (hk | hk)
    · exact .inl (h4 k hk)
    · exact .inr hk
theorem Tri.right (hA : Loc A) (h : Tri P f args w B Q B') : Tri P f args w (Star A B) Q (Star A B') := by
  rintro U ⟨S, T, h1, h2, h3, h4, h5⟩ hU
  refine (h T h2 (fun k hk => hU k (h5 k hk))).mono ?_
  rintro e w1 ⟨hq, ha, hf⟩
  refine ⟨hq, ⟨S, Plus T w w1, hA w w1 S T h1 hf h3, ha, ?_, fun k hk => .inl (h4 k hk), ?_⟩, hf.mono h5⟩
  · rintro k hs (hk | ⟨hk, _⟩)
    · exact h3 k hs hk
    · have := hU k (h4 k hs); omega
  · rintro k (hk | hk)
    · exact .inl (h5 k hk)
    · exact .inr hk
/-- All that the call at hand has made, since the world w0. -/
def Live (w0 : World) (A : Asr) (w : World) : Prop := ∃ U, A w U ∧ (∀ k, U k → w0.heap.size ≤ k ∧ k < w.heap.size) ∧ Fr Nob w0 w

theorem Live.start (w : World) : Live w Emp w := ⟨fun _ => False, trivial, fun _ h => h.elim, Fr.refl _ _⟩
theorem Live.op (h : Live w0 A w) (ht : Tri P f args w A Q A') : Calls P f args w fun e w' => Q e ∧ Live w0 A' w' := by
  obtain ⟨U, h1, h2, h3⟩ := h
  refine (ht U h1 (fun k hk => (h2 k hk).2)).mono ?_
  rintro e w1 ⟨hq, ha, hf⟩
  refine ⟨hq, _, ha, ?_, h3.trans' hf (fun i hi hu => by have := (h2 i hu).1; omega)⟩
  rintro k (hk | hk)
  · exact ⟨(h2 k hk).1, Nat.lt_of_lt_of_le (h2 k hk).2 hf.size⟩
  · exact ⟨Nat.le_trans h3.size hk.1, hk.2⟩
theorem Live.keep (h : Live w0 A w) (hA : Loc A) (hf : Fr Nob w w') : Live w0 A w' := by
  obtain ⟨U, h1, h2, h3⟩ := h
  exact ⟨U, hA w w' U Nob h1 hf (fun _ _ h => h), fun k hk => ⟨(h2 k hk).1, Nat.lt_of_lt_of_le (h2 k hk).2 hf.size⟩, h3.trans hf⟩
theorem Live.new (h : Live w0 A w) (hA : Loc A) (hf : Fr Nob w w') (hb : B w' (Plus Nob w w')) : Live w0 (Star B A) w' := by
  obtain ⟨U, h1, h2, h3⟩ := h
  refine ⟨fun k => Plus Nob w w' k ∨ U k, ⟨Plus Nob w w', U, hb, hA w w' U Nob h1 hf (fun _ _ h => h), ?_, fun k hk => .inl hk, fun k hk => .inr hk⟩, ?_, h3.trans hf⟩
  · rintro k (hk | hk) hu
    · exact hk
    · have := (h2 k hu).2; omega
  · rintro k ((hk | hk) | hk)
    · exact hk.elim
    · exact ⟨Nat.le_trans h3.size hk.1, hk.2⟩
    · exact ⟨(h2 k hk).1, Nat.lt_of_lt_of_le (h2 k hk).2 hf.size⟩
theorem Live.map (h : Live w0 A w) (hm : ∀ U, A w U → B w U) : Live w0 B w := by
  obtain ⟨U, h1, h2, h3⟩ := h
  exact ⟨U, hm U h1, h2, h3⟩
theorem Live.fr (h : Live w0 A w) : Fr Nob w0 w := h.elim fun _ h => h.2.2
theorem Live.alloc (h : Live w0 A w) (hA : Loc A) (o : Obj) : Live w0 A (w.alloc o) := h.keep hA ((Fr.refl _ _).alloc o)
theorem Live.drew (h : Live w0 A w) (hA : Loc A) : Live w0 A w.drew := h.keep hA (Fr.refl _ _).drew
theorem Live.drewN (h : Live w0 A w) (hA : Loc A) (n : Nat) : Live w0 A (w.drewN n) := h.keep hA ((Fr.refl _ _).drewN n)

theorem star_swap {U : Nat → Prop} (h : Star A B w U) : Star B A w U := by
  obtain ⟨S, T, h1, h2, h3, h4, h5⟩ := h
  exact ⟨T, S, h2, h1, fun k hk hs => h3 k hs hk, h5, h4⟩
theorem star_assoc {U : Nat → Prop} (h : Star (Star A B) C w U) : Star A (Star B C) w U := by
  obtain ⟨S, T, ⟨S1, S2, a, b, d, e1, e2⟩, c, h3, h4, h5⟩ := h
  exact ⟨S1, fun k => S2 k ∨ T k, a, ⟨S2, T, b, c, fun k hk => h3 k (e2 k hk), fun k hk => .inl hk, fun k hk => .inr hk⟩,
    fun k hk ht => ht.elim (d k hk) (h3 k (e1 k hk)), fun k hk => h4 k (e1 k hk), fun k hk => hk.elim (fun hk => h4 k (e2 k hk)) (h5 k)⟩
theorem star_assoc' {U : Nat → Prop} (h : Star A (Star B C) w U) : Star (Star A B) C w U := by
  obtain ⟨S, T, a, ⟨S1, S2, b, c, d, e1, e2⟩, h3, h4, h5⟩ := h
  exact ⟨fun k => S k ∨ S1 k, S2, ⟨S, S1, a, b, fun k hk hs => h3 k hk (e1 k hs), fun k hk => .inl hk, fun k hk => .inr hk⟩, c,
    fun k hk ht => hk.elim (fun hk => h3 k hk (e2 k ht)) (fun hk => d k hk ht), fun k hk => hk.elim (h4 k) (fun hk => h5 k (e1 k hk)), fun k hk => h5 k (e2 k hk)⟩
theorem star_left {U : Nat → Prop} (h : Star A B w U) (hm : ∀ S, A w S → C w S) : Star C B w U := by
  obtain ⟨S, T, h1, h2, h3⟩ := h
  exact ⟨S, T, hm S h1, h2, h3⟩
theorem Live.first (h : Live w0 (Star A B) w) : ∃ S, A w S := by
  obtain ⟨U, ⟨S, T, h1, _⟩, _⟩ := h
  exact ⟨S, h1⟩
theorem Live.second (h : Live w0 (Star A B) w) : ∃ S, B w S := by
  obtain ⟨U, ⟨S, T, _, h1, _⟩, _⟩ := h
  exact ⟨T, h1⟩
theorem Live.calls (h : Live w0 A w) (hA : Loc A) (hc : Calls P f args w fun e w' => Q e ∧ Fr Nob w w') :
    Calls P f args w fun e w' => Q e ∧ Live w0 A w' := hc.mono fun _ _ ⟨he, hf⟩ => ⟨he, h.keep hA hf⟩

/-- A step of the world that turns the blocks of one thing. -/
def Turn (w w' : World) (A A' : Asr) : Prop := ∀ S, A w S → A' w' (Plus S w w') ∧ Fr S w w'
theorem Turn.left (hB : Loc B) (h : Turn w w' A A') (U : Nat → Prop) (hU : ∀ k, U k → k < w.heap.size) (hs : Star A B w U) : Star A' B w' (Plus U w w') ∧ Fr U w w' := by
  obtain ⟨S, T, h1, h2, h3, h4, h5⟩ := hs
  obtain ⟨ha, hf⟩ := h S h1
  refine ⟨⟨Plus S w w', T, ha, hB w w' T S h2 hf (fun k hk hs => h3 k hs hk), ?_, ?_, fun k hk => .inl (h5 k hk)⟩, hf.mono h4⟩
  · rintro k (hk | ⟨hk, _⟩) ht
    · exact h3 k hk ht
    · have := hU k (h5 k ht); omega
  · rintro k (hk | hk)
    · exact .inl (h4 k hk)
    · exact .inr hk
theorem Live.turn (h : Live w0 (Star A B) w) (hB : Loc B) (ht : Turn w w' A A') : Live w0 (Star A' B) w' := by
  obtain ⟨U, h1, h2, h3⟩ := h
  obtain ⟨h4, h5⟩ := ht.left hB U (fun k hk => (h2 k hk).2) h1
  refine ⟨_, h4, ?_, h3.trans' h5 (fun i hi hu => by have := (h2 i hu).1; omega)⟩
  rintro k (hk | hk)
  · exact ⟨(h2 k hk).1, Nat.lt_of_lt_of_le (h2 k hk).2 h5.size⟩
  · exact ⟨Nat.le_trans h3.size hk.1, hk.2⟩
theorem Live.swap (h : Live w0 (Star A B) w) : Live w0 (Star B A) w := h.map fun _ => star_swap
theorem Live.turn2 (h : Live w0 (Star B A) w) (hB : Loc B) (ht : Turn w w' A A') : Live w0 (Star B A') w' := (h.swap.turn hB ht).swap

/-- A slice of one's own. -/
def rowA (e size : Nat) (v : Value) (n : Nat) (xs : List Value) : Asr := fun w S => w.ownsRow 0 e size v n xs ∧ ∀ k, v.ownBlock = some k → S k
theorem loc_row (e size : Nat) (v : Value) (n : Nat) (xs : List Value) : Loc (rowA e size v n xs) :=
  fun _ _ _ _ h hf hT => ⟨row_fr h.1 hf (fun k hk => hT k (h.2 k hk)), h.2⟩
/-- Behind an append. -/
theorem turn_append {e size n m : Nat} {v v' : Value} {xs news : List Value} (hown : w'.ownsRow 0 e size v' m news) (hf : Fr (fun k => v.ownBlock = some k) w w')
    (hv : ∀ k, v'.ownBlock = some k → v.ownBlock = some k ∨ w.heap.size ≤ k) : Turn w w' (rowA e size v n xs) (rowA e size v' m news) := by
  intro S h
  refine ⟨⟨hown, fun k hk => (hv k hk).imp (h.2 k) (fun h1 => ⟨h1, (hown.lt k hk).2⟩)⟩, hf.mono h.2⟩

/-- A block of one's own. -/
def blkA (b e : Nat) (cs : List Value) : Asr := fun w S => Blk w b e cs ∧ S b
theorem loc_blk (b e : Nat) (cs : List Value) : Loc (blkA b e cs) := fun _ _ _ _ h hf hT => ⟨h.1.fr hf (hT _ h.2), h.2⟩
theorem Live.box (h : Live w0 A w) (hA : Loc A) (e : Nat) (cs : List Value) : Live w0 (Star (blkA w.heap.size e cs) A) (w.alloc (.cells cs.toArray e)) :=
  h.new hA ((Fr.refl _ _).alloc _) ⟨Blk.new w e cs, .inr ⟨Nat.le_refl _, by simp⟩⟩
theorem Live.drop (h : Live w0 (Star A B) w) : Live w0 B w := by
  obtain ⟨U, ⟨S, T, _, h1, _, _, h5⟩, h2, h3⟩ := h
  exact ⟨T, h1, fun k hk => h2 k (h5 k hk), h3⟩
theorem turn_blk {b e : Nat} {cs : List Value} (j : Nat) (v : Value) : Turn w (w.setCell ⟨b, j, none⟩ v) (blkA b e cs) (blkA b e (cs.set j v)) :=
  fun _ h => ⟨⟨h.1.set j v, .inl h.2⟩, Fr.setCell h.2 w j v⟩
end
end Go.Proofs.YtchilnjocnkodaaGreat
