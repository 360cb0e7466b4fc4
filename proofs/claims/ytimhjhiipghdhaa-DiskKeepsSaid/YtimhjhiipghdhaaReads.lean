/- DiskReads by itself: what is read is what was written last; no program. -/
import Derived.Test.YtimhjhiipghdhaaSafe
namespace Go.Proofs.Ytimhjhiipghdhaa

structure ReadSt where
  D : DSt
  last : ByteArray

section
variable (sec : ByteArray → ByteArray)
def readStep (i : Int) (st : ReadSt) (a : ActD) : ReadSt :=
  if a.kind = 2 then ⟨st.D.write a.i (sec a.s), if a.i = i then sec a.s else st.last⟩
  else if a.kind = 3 then ⟨st.D.flush, st.last⟩ else st
def readRun (i : Int) (D : DSt) (acts : List ActD) : ReadSt := acts.foldl (readStep sec i) ⟨D, sec ⟨#[]⟩⟩

structure ReadInv (i : Nat) (n : Nat) (st : ReadSt) : Prop where
  off : st.D.off = false
  power : st.D.power = -1
  len : st.D.safe.length = 48
  waits : st.D.wait.length ≤ n
  now : st.D.sec i = st.last

theorem read_step {i : Nat} {n : Nat} {st : ReadSt} (hi : i < 48) (hz : ∀ s, (sec s).size = 64) (h : ReadInv i n st) (a : ActD) : ReadInv i (n + 1) (readStep sec i st a) := by
  obtain ⟨h1, h2, h3, h4, h5⟩ := h
  unfold readStep
  by_cases k2 : a.kind = 2
  · rw [if_pos k2]
    by_cases hv : a.i < 0 ∨ (st.D.safe.length : Int) ≤ a.i
    · obtain ⟨e1, _⟩ := DSt.write_bad (s := sec a.s) h1 (.inl hv)
      rw [e1, if_neg (by omega)]
      exact ⟨h1, h2, h3, by show st.D.wait.length ≤ _; omega, h5⟩
    · obtain ⟨e1, _⟩ := DSt.write_on (s := sec a.s) h1 h2 (i := a.i) (by omega) (by omega) (hz _)
      rw [e1]
      refine ⟨h1, h2, h3, by simp; omega, ?_⟩
      show ((lastOf (st.D.wait ++ [(a.i.toNat, sec a.s)]) i).or st.D.safe[i]?).getD ⟨#[]⟩ = _
      rw [lastOf_snoc]
      by_cases hai : a.i = i
      · rw [if_pos (by show a.i.toNat = i; omega)]
        simp [hai]
      · rw [if_neg (by show ¬ a.i.toNat = i; omega)]
        simp only [hai, if_false]
        exact h5
  · rw [if_neg k2]
    by_cases k3 : a.kind = 3
    · rw [if_pos k3]
      obtain ⟨e1, _⟩ := DSt.flush_on h1 h2
      rw [e1]
      have hl : (puts st.D.safe st.D.wait).length = st.D.safe.length := puts_length _ _
      refine ⟨h1, h2, hl.trans h3, Nat.zero_le _, ?_⟩
      show ((lastOf [] i).or (puts st.D.safe st.D.wait)[i]?).getD ⟨#[]⟩ = st.last
      rw [puts_get _ _ _ (by omega), ← h5]
      unfold DSt.sec
      simp [lastOf]
    · rw [if_neg k3]
      exact ⟨h1, h2, h3, by omega, h5⟩

theorem read_run {i : Nat} (hi : i < 48) (hz : ∀ s, (sec s).size = 64) {D : DSt} (h0 : D.off = false) (h1 : D.power = -1) (h2 : D.safe.length = 48) (h3 : D.wait = []) (h4 : ∀ s ∈ D.safe, s = sec ⟨#[]⟩) (acts : List ActD) :
    ReadInv i acts.length (readRun sec i D acts) := by
  have key : ∀ (l : List ActD) (n : Nat) (st : ReadSt), ReadInv i n st → ReadInv i (n + l.length) (l.foldl (readStep sec i) st) := by
    intro l
    induction l with
    | nil => intro n st h; exact h
    | cons a l ih =>
      intro n st h
      have := ih (n + 1) _ (read_step sec hi hz h a)
      rwa [List.length_cons, Nat.add_comm l.length 1, ← Nat.add_assoc]
  have := key acts 0 ⟨D, sec ⟨#[]⟩⟩ ⟨h0, h1, h2, by rw [h3]; exact Nat.le_refl _, by
    show ((lastOf D.wait i).or D.safe[i]?).getD ⟨#[]⟩ = _
    have hil : i < D.safe.length := by omega
    rw [h3, List.getElem?_eq_getElem hil, h4 _ (List.getElem_mem hil)]
    simp [lastOf]⟩
  simpa [readRun] using this
end
end Go.Proofs.Ytimhjhiipghdhaa
