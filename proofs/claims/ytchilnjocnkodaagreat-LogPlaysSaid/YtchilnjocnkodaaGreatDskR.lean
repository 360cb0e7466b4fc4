/- A disk in memory, the program's and the document's alike: how it lies, and what turns of it leave. -/
import Derived.Test.YtchilnjocnkodaaGreatRows
import Derived.Test.YtchilnjocnkodaaGreatApp
import Derived.Test.YtchilnjocnkodaaGreatDsk
namespace Go.Proofs.YtchilnjocnkodaaGreat
open Go.RowKit

abbrev tStr : Nat := 9

def flatW (w : List (Nat × ByteArray)) : List Value := w.flatMap fun x => [.int .i64 x.1, .string x.2]
def strs (l : List ByteArray) : List Value := l.map .string

/-- The types of a disk: its head, its writes. -/
structure Kd where
  th : Nat
  tw : Nat
  h1 : th ≠ tStr
  h2 : tw ≠ tStr
  h3 : th ≠ tw

/-- Block b is a disk, its blocks among S, in the state D. -/
structure IsDskAt (K : Kd) (w : World) (b bs c : Nat) (sp : List Value) (wv : Value) (S : Nat → Prop) (D : DSt) : Prop where
  head : Blk w b K.th [.slice (some ⟨bs, 0, none⟩) D.safe.length c, wv, .int .i64 D.power, .bool D.off]
  rows : Blk w bs tStr (strs D.safe ++ sp)
  wait : w.ownsRow 0 K.tw 2 wv D.wait.length (flatW D.wait)
  own : S b
  ownS : S bs
  ownW : ∀ k, wv.ownBlock = some k → S k
  ok : D.Ok
def IsDsk (K : Kd) (w : World) (b : Nat) (S : Nat → Prop) (D : DSt) : Prop := ∃ bs c sp wv, IsDskAt K w b bs c sp wv S D

theorem strs_get {l : List ByteArray} {sp : List Value} {i : Nat} {y : ByteArray} (h : l[i]? = some y) : (strs l ++ sp)[i]? = some (.string y) := by
  have hi : i < l.length := (List.getElem?_eq_some_iff.1 h).1
  rw [List.getElem?_append_left (by simpa [strs] using hi)]
  simp [strs, h]

section
variable {K : Kd} {w w' w1 w2 : World} {b bs c : Nat} {sp : List Value} {wv v' : Value} {S T : Nat → Prop} {D : DSt}

theorem IsDskAt.apart (h : IsDskAt K w b bs c sp wv S D) {k : Nat} (hk : wv.ownBlock = some k) : k < w.heap.size ∧ k ≠ b ∧ k ≠ bs := by
  rcases h.wait.2 with ⟨hv, _⟩ | ⟨g, cap, cur, hv, _, hg, _⟩
  · rw [hv] at hk; cases hk
  · rw [hv] at hk; cases hk
    refine ⟨lt_of_block hg, ?_, ?_⟩
    · intro e; have := h.head; unfold Blk at this; simp only at e; rw [← e, hg] at this; simp at this; exact absurd this.2.symm K.h3
    · intro e; have := h.rows; unfold Blk at this; simp only at e; rw [← e, hg] at this; simp at this; exact absurd this.2 K.h2
theorem IsDskAt.sb (h : IsDskAt K w b bs c sp wv S D) : bs ≠ b := h.rows.ne h.head K.h1.symm
theorem IsDskAt.turn (h : IsDskAt K w b bs c sp wv S D) {p : Int} {o : Bool}
    (hb : Blk w' b K.th [.slice (some ⟨bs, 0, none⟩) D.safe.length c, wv, .int .i64 p, .bool o]) (hf : Fr (· = b) w w')
    (lo : -1 ≤ p) (hi : p ≤ 9223372036854775807) : IsDskAt K w' b bs c sp wv S { D with power := p, off := o } where
  head := hb
  rows := h.rows.fr hf h.sb
  wait := row_fr h.wait hf fun _ hk e => (h.apart hk).2.1 e
  own := h.own
  ownS := h.ownS
  ownW := h.ownW
  ok := ⟨h.ok.len, h.ok.lo48, h.ok.at_, h.ok.size, h.ok.wsize, lo, hi⟩
theorem IsDskAt.mono (h : IsDskAt K w b bs c sp wv S D) (hT : ∀ k, S k → T k) : IsDskAt K w b bs c sp wv T D :=
  ⟨h.head, h.rows, h.wait, hT _ h.own, hT _ h.ownS, fun k hk => hT _ (h.ownW k hk), h.ok⟩
theorem IsDsk.mono (h : IsDsk K w b S D) (hT : ∀ k, S k → T k) : IsDsk K w b T D := by
  obtain ⟨bs, c, sp, wv, h⟩ := h; exact ⟨bs, c, sp, wv, h.mono hT⟩
/-- A disk stays as it is where none of its blocks is turned. -/
theorem IsDskAt.fr (h : IsDskAt K w b bs c sp wv S D) (hf : Fr T w w') (hT : ∀ k, S k → ¬ T k) : IsDskAt K w' b bs c sp wv S D :=
  ⟨h.head.fr hf (hT _ h.own), h.rows.fr hf (hT _ h.ownS), row_fr h.wait hf (fun k hk => hT _ (h.ownW k hk)), h.own, h.ownS, h.ownW, h.ok⟩
theorem IsDsk.fr (h : IsDsk K w b S D) (hf : Fr T w w') (hT : ∀ k, S k → ¬ T k) : IsDsk K w' b S D := by
  obtain ⟨bs, c, sp, wv, h⟩ := h
  exact ⟨bs, c, sp, wv, h.fr hf hT⟩
theorem IsDskAt.alloc (h : IsDskAt K w b bs c sp wv S D) (o : Obj) : IsDskAt K (w.alloc o) b bs c sp wv S D :=
  h.fr ((Fr.refl Nob w).alloc o) (fun _ _ h => h)
theorem IsDskAt.drew (h : IsDskAt K w b bs c sp wv S D) : IsDskAt K w.drew b bs c sp wv S D :=
  h.fr ((Fr.refl Nob w).drew) (fun _ _ h => h)

theorem flatW_get {l : List (Nat × ByteArray)} {k : Nat} {x : Nat × ByteArray} (h : l[k]? = some x) : (flatW l)[k * 2]? = some (.int .i64 x.1) ∧ (flatW l)[k * 2 + 1]? = some (.string x.2) := by
  induction l generalizing k with
  | nil => simp at h
  | cons y l ih =>
    cases k with
    | zero => simp at h; subst h; simp [flatW]
    | succ k =>
      have := ih (k := k) (by simpa using h)
      simpa [flatW, Nat.add_mul, Nat.add_right_comm] using this

theorem flatW_append (l : List (Nat × ByteArray)) (i : Nat) (s : ByteArray) : flatW (l ++ [(i, s)]) = flatW l ++ [.int .i64 i, .string s] := by
  simp [flatW]

theorem IsDskAt.wrote (h : IsDskAt K w1 b bs c sp wv S D) (hf : Fr (fun k => wv.ownBlock = some k) w1 w2) {i : Nat} {s : ByteArray}
    (hown : w2.ownsRow 0 K.tw 2 v' (D.wait.length + 1) (flatW D.wait ++ [.int .i64 i, .string s])) (hv : ∀ k, v'.ownBlock = some k → wv.ownBlock = some k ∨ w1.heap.size ≤ k)
    (hi : i < D.safe.length) (hs : s.size = 64) :
    IsDsk K (w2.setCell ⟨b, 1, none⟩ v') b (Plus S w1 (w2.setCell ⟨b, 1, none⟩ v')) { D with wait := D.wait ++ [(i, s)] } ∧ Fr S w1 (w2.setCell ⟨b, 1, none⟩ v') := by
  have hb2 : Blk w2 b K.th _ := h.head.fr hf (fun e => (h.apart e).2.1 rfl)
  have hs2 : Blk w2 bs tStr _ := h.rows.fr hf (fun e => (h.apart e).2.2 rfl)
  have hne : bs ≠ b := hs2.ne hb2 K.h1.symm
  have hvb : ∀ k, v'.ownBlock = some k → k ≠ b := fun k hk e => by
    rcases hown.2 with ⟨hv', _⟩ | ⟨g, cap, cur, hv', _, hg, _⟩
    · rw [hv'] at hk; cases hk
    · rw [hv'] at hk; cases hk
      have := hb2; unfold Blk at this; simp only at e; rw [← e, hg] at this; simp at this; exact absurd this.2.symm K.h3
  refine ⟨⟨bs, c, sp, v', hb2.set 1 v', hs2.set_ne hne 1 v', ?_, .inl h.own, .inl h.ownS, ?_, ⟨h.ok.len, h.ok.lo48, ?_, h.ok.size, ?_, h.ok.lo, h.ok.hi⟩⟩, (hf.mono (fun k hk => h.ownW k hk)).set (.inl h.own) 1 v'⟩
  · have := ownsRow_setCell_other hown (a := ⟨b, 1, none⟩) (fun e => hvb _ e rfl) v'
    rw [flatW_append]
    simpa using this
  · intro k hk
    rcases hv k hk with h1 | h1
    · exact .inl (h.ownW k h1)
    · refine .inr ⟨h1, ?_⟩
      have := (hown.lt k hk).2
      simpa using this
  · intro x hx
    simp only [List.mem_append, List.mem_singleton] at hx
    rcases hx with hx | rfl
    · exact h.ok.at_ x hx
    · exact hi
  · intro x hx
    simp only [List.mem_append, List.mem_singleton] at hx
    rcases hx with hx | rfl
    · exact h.ok.wsize x hx
    · exact hs

/-- One safe sector is turned. -/
theorem IsDskAt.put (h : IsDskAt K w b bs c sp wv S D) {i : Nat} {s : ByteArray} (hs : s.size = 64) (hi : i < D.safe.length) :
    IsDskAt K (w.setCell ⟨bs, i, none⟩ (.string s)) b bs c sp wv S { D with safe := D.safe.set i s } where
  head := by have := h.head.set_ne h.sb.symm i (.string s); simpa using this
  rows := by have := h.rows.set i (.string s); rw [List.set_append_left _ _ (by simpa [strs] using hi)] at this; simpa [strs, List.map_set] using this
  wait := by
    have := ownsRow_setCell_other h.wait (a := ⟨bs, i, none⟩) (fun e => (h.apart e).2.2 rfl) (.string s)
    exact this
  own := h.own
  ownS := h.ownS
  ownW := h.ownW
  ok := ⟨by simpa using h.ok.len, by simpa using h.ok.lo48, by simpa using h.ok.at_, fun t ht => by
    rcases List.mem_or_eq_of_mem_set ht with ht | ht
    · exact h.ok.size t ht
    · rw [ht]; exact hs, h.ok.wsize, h.ok.lo, h.ok.hi⟩
/-- None waits any more. -/
theorem IsDskAt.cleared (h : IsDskAt K w b bs c sp wv S D) :
    IsDsk K (w.setCell ⟨b, 1, none⟩ (.slice none 0 0)) b S { D with wait := [] } :=
  ⟨bs, c, sp, .slice none 0 0, h.head.set 1 _, h.rows.set_ne h.sb 1 _, World.ownsRow_nil _ _ _ _, h.own, h.ownS, fun k hk => (by cases hk), ⟨h.ok.len, h.ok.lo48, by simp, h.ok.size, by simp, h.ok.lo, h.ok.hi⟩⟩

theorem strs_one (l : List ByteArray) : ∀ u ∈ strs l, u.oneCell' = true := by
  intro u hu
  obtain ⟨x, _, rfl⟩ := List.mem_map.1 hu
  rfl
theorem IsDskAt.srcs (h : IsDskAt K w b bs c sp wv S D) (cap : Nat) : Srcs w (.slice (some ⟨bs, 0, none⟩) D.safe.length cap) D.safe.length 1 (strs D.safe) :=
  ⟨by simp [strs], strs_one _, .inr ⟨_, _, rfl, fun j u hj => by
    simp only [Addr.add_lit, Nat.zero_add]
    refine h.rows.cell ?_
    rw [List.getElem?_append_left (List.getElem?_eq_some_iff.1 hj).1]
    exact hj⟩⟩

/-- The head behind a crash. -/
theorem IsDskAt.crashed (h : IsDskAt K w b bs c sp wv S D) :
    IsDsk K (((w.setCell ⟨b, 1, none⟩ (.slice none 0 0)).setCell ⟨b, 3, none⟩ (.bool false)).setCell ⟨b, 2, none⟩ (.int .i64 (-1))) b S { safe := D.safe, wait := [], power := -1, off := false } := by
  exact ⟨bs, c, sp, .slice none 0 0, ((h.head.set 1 _).set 3 _).set 2 _, ((h.rows.set_ne h.sb 1 _).set_ne h.sb 3 _).set_ne h.sb 2 _, World.ownsRow_nil _ _ _ _, h.own, h.ownS, fun k hk => (by cases hk),
    ⟨h.ok.len, h.ok.lo48, by simp, h.ok.size, by simp, by simp, by simp⟩⟩
end

theorem plus_mono {S : Nat → Prop} {w w1 w2 w' : World} (h1 : w.heap.size ≤ w1.heap.size) (h2 : w2.heap.size ≤ w'.heap.size) : ∀ k, Plus S w1 w2 k → Plus S w w' k :=
  fun _ h => h.imp id fun h => ⟨Nat.le_trans h1 h.1, Nat.lt_of_lt_of_le h.2 h2⟩

theorem fr_one {S : Nat → Prop} {w w' : World} {b : Nat} (hb : S b) (hf : Fr (· = b) w w') : Fr S w w' := hf.mono fun _ e => by subst e; exact hb

end Go.Proofs.YtchilnjocnkodaaGreat
