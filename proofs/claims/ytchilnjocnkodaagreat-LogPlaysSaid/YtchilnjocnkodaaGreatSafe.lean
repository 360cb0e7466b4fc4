/- DiskSafe by itself: what its loop carries, and that what was flushed stays; no program. -/
import Derived.Test.YtchilnjocnkodaaGreatDsk
namespace Go.Proofs.YtchilnjocnkodaaGreat

/-- An act, as it is read. -/
structure ActD where
  kind : Int
  i : Int
  s : ByteArray
  keep : Nat

structure SafeSt where
  D : DSt
  sure : ByteArray
  seen : List ByteArray

section
variable (sec : ByteArray → ByteArray)
def safeStep (i : Int) (st : SafeSt) (a : ActD) : SafeSt :=
  if a.kind = 2 then
    (if st.D.writeE a.i (sec a.s) = 0 ∧ a.i = i then ⟨st.D.write a.i (sec a.s), ⟨#[]⟩, st.seen ++ [sec a.s]⟩ else ⟨st.D.write a.i (sec a.s), st.sure, st.seen⟩)
  else if a.kind = 3 then
    (if st.D.flushE = 0 ∧ st.D.flush.readE i = 0 then ⟨st.D.flush, st.D.flush.readS i, st.seen⟩ else ⟨st.D.flush, st.sure, st.seen⟩)
  else if a.kind = 5 then ⟨st.D.crash a.keep, st.sure, st.seen⟩ else st
def safeRun (i : Int) (D : DSt) (acts : List ActD) : SafeSt := acts.foldl (safeStep sec i) ⟨D, ⟨#[]⟩, [sec ⟨#[]⟩]⟩

/-- What holds between two acts. -/
structure SafeInv (i : Int) (n : Nat) (st : SafeSt) : Prop where
  off : st.D.off = false
  power : st.D.power = -1
  len : st.D.safe.length = 48
  waits : st.D.wait.length ≤ n
  many : st.seen.length ≤ n + 1
  now : ∀ j : Nat, (j : Int) = i → ∀ s, st.D.safe[j]? = some s → s ∈ st.seen
  then_ : ∀ x ∈ st.D.wait, (x.1 : Int) = i → x.2 ∈ st.seen
  sure : st.sure ≠ ⟨#[]⟩ → (∀ j : Nat, (j : Int) = i → st.D.safe[j]? = some st.sure) ∧ (∀ x ∈ st.D.wait, (x.1 : Int) ≠ i) ∧ 0 ≤ i

theorem safe_step {i : Int} {n : Nat} {st : SafeSt} (hz : ∀ s, (sec s).size = 64) (h : SafeInv i n st) (a : ActD) : SafeInv i (n + 1) (safeStep sec i st a) := by
  obtain ⟨h1, h2, h3, h4, h5, h6, h7, h8⟩ := h
  unfold safeStep
  by_cases k2 : a.kind = 2
  · rw [if_pos k2]
    by_cases hv : a.i < 0 ∨ (st.D.safe.length : Int) ≤ a.i
    · obtain ⟨e1, e2⟩ := DSt.write_bad (s := sec a.s) h1 (.inl hv)
      rw [e1, e2, if_neg (by omega)]
      exact ⟨h1, h2, h3, by show st.D.wait.length ≤ _; omega, by show st.seen.length ≤ _; omega, h6, h7, h8⟩
    · obtain ⟨e1, e2⟩ := DSt.write_on (s := sec a.s) h1 h2 (i := a.i) (by omega) (by omega) (hz _)
      rw [e1, e2]
      by_cases hai : a.i = i
      · rw [if_pos ⟨rfl, hai⟩]
        refine ⟨h1, h2, h3, by simp; omega, by simp; omega, fun j hj s hs => List.mem_append_left _ (h6 j hj s hs), ?_, fun h => absurd rfl h⟩
        intro x hx hxi
        rcases List.mem_append.1 hx with hx | hx
        · exact List.mem_append_left _ (h7 x hx hxi)
        · simp only [List.mem_singleton] at hx; subst hx; simp
      · rw [if_neg (by omega)]
        refine ⟨h1, h2, h3, by simp; omega, by show st.seen.length ≤ _; omega, h6, ?_, ?_⟩
        · intro x hx hxi
          rcases List.mem_append.1 hx with hx | hx
          · exact h7 x hx hxi
          · simp only [List.mem_singleton] at hx; subst hx; simp only at hxi; omega
        · intro hs
          obtain ⟨g1, g2, g3⟩ := h8 hs
          refine ⟨g1, fun x hx => ?_, g3⟩
          rcases List.mem_append.1 hx with hx | hx
          · exact g2 x hx
          · simp only [List.mem_singleton] at hx; subst hx; simp only; omega
  · rw [if_neg k2]
    by_cases k3 : a.kind = 3
    · rw [if_pos k3]
      obtain ⟨e1, e2⟩ := DSt.flush_on h1 h2
      rw [e1, e2]
      have hl : (puts st.D.safe st.D.wait).length = st.D.safe.length := puts_length _ _
      have g6 : ∀ j : Nat, (j : Int) = i → ∀ s, (puts st.D.safe st.D.wait)[j]? = some s → s ∈ st.seen := by
        intro j hj s hs
        have hjl : j < st.D.safe.length := by rw [← hl]; exact (List.getElem?_eq_some_iff.1 hs).1
        rw [puts_get _ _ _ hjl] at hs
        cases hw : lastOf st.D.wait j with
        | some t => rw [hw] at hs; simp at hs; subst hs; exact h7 _ (lastOf_mem hw) hj
        | none => rw [hw] at hs; exact h6 j hj s (by simpa using hs)
      by_cases hv : i < 0 ∨ (st.D.safe.length : Int) ≤ i
      · obtain ⟨r1, r2⟩ := DSt.read_bad (D := { st.D with safe := puts st.D.safe st.D.wait, wait := [] }) h1 (i := i) (by show i < 0 ∨ ((puts st.D.safe st.D.wait).length : Int) ≤ i; rw [hl]; exact hv)
        rw [r2, if_neg (by omega)]
        refine ⟨h1, h2, hl.trans h3, Nat.zero_le _, by show st.seen.length ≤ _; omega, g6, fun x hx => (by cases hx), fun hs => ?_⟩
        obtain ⟨g1, g2, g3⟩ := h8 hs
        have := g1 i.toNat (by omega)
        have := (List.getElem?_eq_some_iff.1 this).1
        omega
      · obtain ⟨r1, r2⟩ := DSt.read_on (D := { st.D with safe := puts st.D.safe st.D.wait, wait := [] }) h1 (i := i) (by omega) (by show i < ((puts st.D.safe st.D.wait).length : Int); rw [hl]; omega)
        rw [r1, r2, if_pos ⟨rfl, rfl⟩]
        refine ⟨h1, h2, hl.trans h3, Nat.zero_le _, by show st.seen.length ≤ _; omega, g6, fun x hx => (by cases hx), fun _ => ⟨fun j hj => ?_, fun x hx => (by cases hx), by omega⟩⟩
        have hji : j = i.toNat := by omega
        subst hji
        have hjl : i.toNat < (puts st.D.safe st.D.wait).length := by rw [hl]; omega
        show (puts st.D.safe st.D.wait)[i.toNat]? = some (DSt.sec _ _)
        simp [DSt.sec, lastOf, hjl]
    · rw [if_neg k3]
      by_cases k5 : a.kind = 5
      · rw [if_pos k5]
        have hl : (puts st.D.safe (kept a.keep st.D.wait)).length = st.D.safe.length := puts_length _ _
        refine ⟨rfl, rfl, hl.trans h3, Nat.zero_le _, by show st.seen.length ≤ _; omega, ?_, fun x hx => (by cases hx), fun hs => ?_⟩
        · intro j hj s hs
          have hjl : j < st.D.safe.length := by rw [← hl]; exact (List.getElem?_eq_some_iff.1 hs).1
          have hs : (puts st.D.safe (kept a.keep st.D.wait))[j]? = some s := hs
          rw [puts_get _ _ _ hjl] at hs
          cases hw : lastOf (kept a.keep st.D.wait) j with
          | some t => rw [hw] at hs; simp at hs; subst hs; exact h7 _ (kept_sub (lastOf_mem hw)) hj
          | none => rw [hw] at hs; exact h6 j hj s (by simpa using hs)
        · obtain ⟨g1, g2, g3⟩ := h8 hs
          refine ⟨fun j hj => ?_, fun x hx => (by cases hx), g3⟩
          have hjl := (List.getElem?_eq_some_iff.1 (g1 j hj)).1
          show (puts st.D.safe (kept a.keep st.D.wait))[j]? = _
          rw [puts_get _ _ _ hjl, lastOf_none_of (fun x hx => by have := g2 x (kept_sub hx); omega)]
          simpa using g1 j hj
      · rw [if_neg k5]
        exact ⟨h1, h2, h3, by omega, by omega, h6, h7, h8⟩

theorem safe_run {i : Int} (hz : ∀ s, (sec s).size = 64) {D : DSt} (h0 : D.off = false) (h1 : D.power = -1) (h2 : D.safe.length = 48) (h3 : D.wait = []) (h4 : ∀ s ∈ D.safe, s = sec ⟨#[]⟩) (acts : List ActD) :
    SafeInv i acts.length (safeRun sec i D acts) := by
  have key : ∀ (l : List ActD) (n : Nat) (st : SafeSt), SafeInv i n st → SafeInv i (n + l.length) (l.foldl (safeStep sec i) st) := by
    intro l
    induction l with
    | nil => intro n st h; exact h
    | cons a l ih =>
      intro n st h
      have := ih (n + 1) _ (safe_step sec hz h a)
      rwa [List.length_cons, Nat.add_comm l.length 1, ← Nat.add_assoc]
  have := key acts 0 ⟨D, ⟨#[]⟩, [sec ⟨#[]⟩]⟩ ⟨h0, h1, h2, by rw [h3]; exact Nat.le_refl _, by simp, fun j _ s hs => by rw [h4 s (List.mem_of_getElem? hs)]; simp, by rw [h3]; simp, fun h => absurd rfl h⟩
  simpa [safeRun] using this

/-- The end: what is read behind the last crash was seen, and is what was sure. -/
theorem safe_end {i : Int} {n : Nat} {st : SafeSt} (h : SafeInv i n st) (keep : Nat) (hi : 0 ≤ i) (hl : i < 48) :
    (st.D.crash keep).readE i = 0 ∧ (st.D.crash keep).readS i ∈ st.seen ∧ (st.sure ≠ ⟨#[]⟩ → (st.D.crash keep).readS i = st.sure) := by
  obtain ⟨h1, h2, h3, h4, h5, h6, h7, h8⟩ := h
  have hlen : (puts st.D.safe (kept keep st.D.wait)).length = st.D.safe.length := puts_length _ _
  obtain ⟨r1, r2⟩ := DSt.read_on (D := st.D.crash keep) rfl hi (by show i < ((puts st.D.safe (kept keep st.D.wait)).length : Int); rw [hlen, h3]; exact hl)
  have hjl : i.toNat < st.D.safe.length := by omega
  have hj : ((i.toNat : Nat) : Int) = i := by omega
  have hsec : (st.D.crash keep).sec i.toNat = ((lastOf (kept keep st.D.wait) i.toNat).or st.D.safe[i.toNat]?).getD ⟨#[]⟩ := by
    show ((lastOf [] i.toNat).or (puts st.D.safe (kept keep st.D.wait))[i.toNat]?).getD ⟨#[]⟩ = _
    rw [puts_get _ _ _ hjl]
    simp [lastOf]
  rw [r1, r2, hsec]
  refine ⟨rfl, ?_, fun hs => ?_⟩
  · cases hw : lastOf (kept keep st.D.wait) i.toNat with
    | some t => exact h7 _ (kept_sub (lastOf_mem hw)) hj
    | none => rw [List.getElem?_eq_getElem hjl]; exact h6 _ hj _ (List.getElem?_eq_getElem hjl)
  · obtain ⟨g1, g2, g3⟩ := h8 hs
    rw [lastOf_none_of (fun x hx => by have := g2 x (kept_sub hx); omega), g1 _ hj]
    rfl
theorem safe_end_bad {i : Int} {n : Nat} {st : SafeSt} (h : SafeInv i n st) (keep : Nat) (hi : i < 0 ∨ 48 ≤ i) : (st.D.crash keep).readE i = 1 := by
  have hlen : (puts st.D.safe (kept keep st.D.wait)).length = st.D.safe.length := puts_length _ _
  exact (DSt.read_bad (D := st.D.crash keep) rfl (by show i < 0 ∨ ((puts st.D.safe (kept keep st.D.wait)).length : Int) ≤ i; rw [hlen, h.len]; exact hi)).2
end
end Go.Proofs.YtchilnjocnkodaaGreat
