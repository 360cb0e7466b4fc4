/- As Sep's Live, for a call that may turn what it was given: blocks of S0, and its own. For any program. -/
import Derived.Test.YtchilnjocnkodaaGreatSep
namespace Go.Proofs.YtchilnjocnkodaaGreat
open Go.RowKit

/-- It stays true of more blocks. -/
def Mon (A : Asr) : Prop := ∀ (w : World) (S T : Nat → Prop), A w S → (∀ k, S k → T k) → A w T
theorem mon_emp : Mon Emp := fun _ _ _ _ _ => trivial
theorem mon_star (A B : Asr) : Mon (Star A B) := by
  rintro w U V ⟨S, T, h1, h2, h3, h4, h5⟩ hV
  exact ⟨S, T, h1, h2, h3, fun k hk => hV k (h4 k hk), fun k hk => hV k (h5 k hk)⟩

/-- All that the call at hand was given (S0) or has made, since the world w0. -/
def Lv (S0 : Nat → Prop) (w0 : World) (A : Asr) (w : World) : Prop := ∃ U, A w U ∧ (∀ k, U k → (S0 k ∨ w0.heap.size ≤ k) ∧ k < w.heap.size) ∧ Fr S0 w0 w

section
variable {P : Program} {f : FuncId} {args : Array Value} {w w' w0 : World} {A A' B B' C : Asr} {Q : Ending → Prop} {S0 : Nat → Prop}
theorem Live.lv (h : Live w0 A w) : Lv Nob w0 A w := by
  obtain ⟨U, h1, h2, h3⟩ := h
  exact ⟨U, h1, fun k hk => ⟨.inr (h2 k hk).1, (h2 k hk).2⟩, h3⟩
theorem Lv.live (h : Lv Nob w0 A w) : Live w0 A w := by
  obtain ⟨U, h1, h2, h3⟩ := h
  exact ⟨U, h1, fun k hk => ⟨(h2 k hk).1.elim False.elim id, (h2 k hk).2⟩, h3⟩
theorem Lv.start {S : Nat → Prop} (h : A w S) (hS : ∀ k, S k → k < w.heap.size) : Lv S w A w := ⟨S, h, fun k hk => ⟨.inl hk, hS k hk⟩, Fr.refl _ _⟩
theorem Lv.fin (h : Lv S0 w0 A w) (hA : Mon A) : A w (Plus S0 w0 w) ∧ Fr S0 w0 w := by
  obtain ⟨U, h1, h2, h3⟩ := h
  exact ⟨hA w U _ h1 fun k hk => (h2 k hk).1.imp id fun h => ⟨h, (h2 k hk).2⟩, h3⟩
theorem Lv.op (h : Lv S0 w0 A w) (ht : Tri P f args w A Q A') : Calls P f args w fun e w' => Q e ∧ Lv S0 w0 A' w' := by
  obtain ⟨U, h1, h2, h3⟩ := h
  refine (ht U h1 (fun k hk => (h2 k hk).2)).mono ?_
  rintro e w1 ⟨hq, ha, hf⟩
  refine ⟨hq, _, ha, ?_, h3.trans' hf (fun i hi hu => by rcases (h2 i hu).1 with h | h; exact h; omega)⟩
  rintro k (hk | hk)
  · exact ⟨(h2 k hk).1, Nat.lt_of_lt_of_le (h2 k hk).2 hf.size⟩
  · exact ⟨.inr (Nat.le_trans h3.size hk.1), hk.2⟩
theorem Lv.keep (h : Lv S0 w0 A w) (hA : Loc A) (hf : Fr Nob w w') : Lv S0 w0 A w' := by
  obtain ⟨U, h1, h2, h3⟩ := h
  exact ⟨U, hA w w' U Nob h1 hf (fun _ _ h => h), fun k hk => ⟨(h2 k hk).1, Nat.lt_of_lt_of_le (h2 k hk).2 hf.size⟩, h3.trans' hf (fun _ _ h => h.elim)⟩
theorem Lv.new (h : Lv S0 w0 A w) (hA : Loc A) (hf : Fr Nob w w') (hb : B w' (Plus Nob w w')) : Lv S0 w0 (Star B A) w' := by
  obtain ⟨U, h1, h2, h3⟩ := h
  refine ⟨fun k => Plus Nob w w' k ∨ U k, ⟨Plus Nob w w', U, hb, hA w w' U Nob h1 hf (fun _ _ h => h), ?_, fun k hk => .inl hk, fun k hk => .inr hk⟩, ?_, h3.trans' hf (fun _ _ h => h.elim)⟩
  · rintro k (hk | hk) hu
    · exact hk
    · have := (h2 k hu).2; omega
  · rintro k ((hk | hk) | hk)
    · exact hk.elim
    · exact ⟨.inr (Nat.le_trans h3.size hk.1), hk.2⟩
    · exact ⟨(h2 k hk).1, Nat.lt_of_lt_of_le (h2 k hk).2 hf.size⟩
theorem Lv.map (h : Lv S0 w0 A w) (hm : ∀ U, A w U → B w U) : Lv S0 w0 B w := by
  obtain ⟨U, h1, h2, h3⟩ := h
  exact ⟨U, hm U h1, h2, h3⟩
theorem Lv.fr (h : Lv S0 w0 A w) : Fr S0 w0 w := h.elim fun _ h => h.2.2
theorem Lv.alloc (h : Lv S0 w0 A w) (hA : Loc A) (o : Obj) : Lv S0 w0 A (w.alloc o) := h.keep hA ((Fr.refl _ _).alloc o)
theorem Lv.drew (h : Lv S0 w0 A w) (hA : Loc A) : Lv S0 w0 A w.drew := h.keep hA (Fr.refl _ _).drew
theorem Lv.drewN (h : Lv S0 w0 A w) (hA : Loc A) (n : Nat) : Lv S0 w0 A (w.drewN n) := h.keep hA ((Fr.refl _ _).drewN n)
theorem Lv.first (h : Lv S0 w0 (Star A B) w) : ∃ S, A w S := by
  obtain ⟨U, ⟨S, T, h1, _⟩, _⟩ := h
  exact ⟨S, h1⟩
theorem Lv.second (h : Lv S0 w0 (Star A B) w) : ∃ S, B w S := by
  obtain ⟨U, ⟨S, T, _, h1, _⟩, _⟩ := h
  exact ⟨T, h1⟩
theorem Lv.calls (h : Lv S0 w0 A w) (hA : Loc A) (hc : Calls P f args w fun e w' => Q e ∧ Fr Nob w w') :
    Calls P f args w fun e w' => Q e ∧ Lv S0 w0 A w' := hc.mono fun _ _ ⟨he, hf⟩ => ⟨he, h.keep hA hf⟩
theorem Lv.turn (h : Lv S0 w0 (Star A B) w) (hB : Loc B) (ht : Turn w w' A A') : Lv S0 w0 (Star A' B) w' := by
  obtain ⟨U, h1, h2, h3⟩ := h
  obtain ⟨h4, h5⟩ := ht.left hB U (fun k hk => (h2 k hk).2) h1
  refine ⟨_, h4, ?_, h3.trans' h5 (fun i hi hu => by rcases (h2 i hu).1 with h | h; exact h; omega)⟩
  rintro k (hk | hk)
  · exact ⟨(h2 k hk).1, Nat.lt_of_lt_of_le (h2 k hk).2 h5.size⟩
  · exact ⟨.inr (Nat.le_trans h3.size hk.1), hk.2⟩
theorem Lv.swap (h : Lv S0 w0 (Star A B) w) : Lv S0 w0 (Star B A) w := h.map fun _ => star_swap
theorem Lv.assoc (h : Lv S0 w0 (Star (Star A B) C) w) : Lv S0 w0 (Star A (Star B C)) w := h.map fun _ => star_assoc
theorem Lv.assoc' (h : Lv S0 w0 (Star A (Star B C)) w) : Lv S0 w0 (Star (Star A B) C) w := h.map fun _ => star_assoc'
theorem Lv.box (h : Lv S0 w0 A w) (hA : Loc A) (e : Nat) (cs : List Value) : Lv S0 w0 (Star (blkA w.heap.size e cs) A) (w.alloc (.cells cs.toArray e)) :=
  h.new hA ((Fr.refl _ _).alloc _) ⟨Blk.new w e cs, .inr ⟨Nat.le_refl _, by simp⟩⟩
theorem Lv.drop (h : Lv S0 w0 (Star A B) w) : Lv S0 w0 B w := by
  obtain ⟨U, ⟨S, T, _, h1, _, _, h5⟩, h2, h3⟩ := h
  exact ⟨T, h1, fun k hk => h2 k (h5 k hk), h3⟩
/-- A contract in this form gives one for any frame. -/
theorem tri_of_lv (hA' : Mon A') (h : ∀ S, (∀ k, S k → k < w.heap.size) → Lv S w A w → Calls P f args w fun e w' => Q e ∧ Lv S w A' w') : Tri P f args w A Q A' := by
  intro S hS hlt
  exact (h S hlt (Lv.start hS hlt)).mono fun _ _ ⟨hq, hl⟩ => ⟨hq, hl.fin hA'⟩
theorem star_right {U : Nat → Prop} (h : Star A B w U) (hm : ∀ S, B w S → C w S) : Star A C w U := by
  obtain ⟨S, T, h1, h2, h3⟩ := h
  exact ⟨S, T, h1, hm T h2, h3⟩
theorem star_flip {U : Nat → Prop} (h : Star A (Star B C) w U) : Star B (Star A C) w U :=
  star_assoc (star_left (star_assoc' h) fun _ h => star_swap h)
/-- The second is let go. -/
theorem star_less {U : Nat → Prop} (h : Star A (Star B C) w U) : Star A C w U := by
  obtain ⟨S, T, h1, ⟨S', T', _, h2, _, _, e3⟩, h3, h4, h5⟩ := h
  exact ⟨S, T', h1, h2, fun k hk ht => h3 k hk (e3 k ht), h4, fun k hk => h5 k (e3 k hk)⟩
end
end Go.Proofs.YtchilnjocnkodaaGreat
