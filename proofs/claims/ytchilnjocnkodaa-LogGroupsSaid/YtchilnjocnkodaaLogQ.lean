/- Acts on a disk, cut off anywhere: what of a commit is safe. No program. -/
import Derived.Test.YtchilnjocnkodaaLogP
namespace Go.Proofs.Ytchilnjocnkodaa

/-- A disk's sectors: the safe ones, the waiting writes. -/
structure Sw where
  safe : List ByteArray
  wait : List (Nat × ByteArray)
def DSt.sw (D : DSt) : Sw := ⟨D.safe, D.wait⟩
def Sw.step (x : Sw) : DAct → Sw
  | .write i s => ⟨x.safe, x.wait ++ [(i, s)]⟩
  | .flush => ⟨puts x.safe x.wait, []⟩
def Sw.run (x : Sw) (l : List DAct) : Sw := l.foldl Sw.step x
/-- An act that a disk of so many sectors takes. -/
def DAct.Fits (n : Nat) : DAct → Prop
  | .write i s => i < n ∧ s.size = 64
  | .flush => True

theorem step_safe (x : Sw) (a : DAct) : (x.step a).safe.length = x.safe.length := by
  cases a with
  | write i s => rfl
  | flush => exact puts_length _ _
theorem run_safe (x : Sw) (l : List DAct) : (x.run l).safe.length = x.safe.length := by
  induction l generalizing x with
  | nil => rfl
  | cons a l ih => exact (ih (x.step a)).trans (step_safe x a)
theorem run_append (x : Sw) (l k : List DAct) : x.run (l ++ k) = (x.run l).run k := by simp [Sw.run]

/-- The power that is left. -/
def DSt.left (D : DSt) (n : Nat) : Prop := D.power = -1 ∨ (n : Int) ≤ D.power

theorem act_ok {D : DSt} {a : DAct} (h0 : D.off = false) (hf : a.Fits D.safe.length) (hp : D.power ≠ 0) : D.actE a = 0 ∧ D.act1 a = { D.pay with safe := (D.sw.step a).safe, wait := (D.sw.step a).wait } := by
  cases a with
  | write i s =>
    obtain ⟨h1, h2⟩ := hf
    have hc : ¬ (((i : Int) < 0 ∨ (D.safe.length : Int) ≤ (i : Int)) ∨ s.size ≠ 64) := by omega
    constructor
    · show D.writeE i s = 0
      unfold DSt.writeE
      rw [if_neg (by simp [h0]), if_neg hc, if_neg hp]
    · show D.write i s = _
      unfold DSt.write
      rw [if_neg (by simp [h0]), if_neg hc, if_neg hp]
      simp [DSt.sw, Sw.step, DSt.pay]
  | flush =>
    constructor
    · show D.flushE = 0
      unfold DSt.flushE
      rw [if_neg (by simp [h0]), if_neg hp]
    · show D.flush = _
      unfold DSt.flush
      rw [if_neg (by simp [h0]), if_neg hp]
      simp [DSt.sw, Sw.step, DSt.pay]
theorem act_dies {D : DSt} {a : DAct} (h0 : D.off = false) (hf : a.Fits D.safe.length) (hp : D.power = 0) : D.actE a = 7 ∧ D.act1 a = D.die := by
  cases a with
  | write i s =>
    obtain ⟨h1, h2⟩ := hf
    have hc : ¬ (((i : Int) < 0 ∨ (D.safe.length : Int) ≤ (i : Int)) ∨ s.size ≠ 64) := by omega
    constructor
    · show D.writeE i s = 7
      unfold DSt.writeE
      rw [if_neg (by simp [h0]), if_neg hc, if_pos hp]
    · show D.write i s = _
      unfold DSt.write
      rw [if_neg (by simp [h0]), if_neg hc, if_pos hp]
  | flush =>
    constructor
    · show D.flushE = 7
      unfold DSt.flushE
      rw [if_neg (by simp [h0]), if_pos hp]
    · show D.flush = _
      unfold DSt.flush
      rw [if_neg (by simp [h0]), if_pos hp]

/-- Acts in a row come as far as the power goes. -/
theorem acts_run {D : DSt} {l : List DAct} (h0 : D.off = false) (hf : ∀ a ∈ l, a.Fits D.safe.length) (hp : -1 ≤ D.power) :
    (D.left l.length ∧ D.actsE l = 0 ∧ (D.acts l).off = false ∧ (D.acts l).sw = D.sw.run l ∧ ((D.acts l).power = if D.power = -1 then -1 else D.power - l.length)) ∨
    (¬ D.left l.length ∧ D.actsE l = 7 ∧ (D.acts l).off = true ∧ ∃ k, k < l.length ∧ (D.acts l).sw = D.sw.run (l.take k)) := by
  induction l generalizing D with
  | nil =>
    left
    refine ⟨?_, rfl, h0, rfl, ?_⟩
    · unfold DSt.left; simp; omega
    · show D.power = _
      split <;> simp_all
  | cons a l ih =>
    have hfa := hf a (by simp)
    by_cases hz : D.power = 0
    · right
      obtain ⟨e1, e2⟩ := act_dies h0 hfa hz
      refine ⟨?_, ?_, ?_, 0, by simp, ?_⟩
      · unfold DSt.left; simp; omega
      · show (if D.actE a = 0 then _ else D.actE a) = 7
        rw [if_neg (by omega), e1]
      · show (if D.actE a = 0 then (D.act1 a).acts l else D.act1 a).off = true
        rw [if_neg (by omega), e2]; rfl
      · show (if D.actE a = 0 then (D.act1 a).acts l else D.act1 a).sw = _
        rw [if_neg (by omega), e2]; rfl
    · obtain ⟨e1, e2⟩ := act_ok h0 hfa hz
      have hl : (D.act1 a).safe.length = D.safe.length := by rw [e2]; exact step_safe D.sw a
      have ho : (D.act1 a).off = false := by rw [e2]; exact h0
      have hsw : (D.act1 a).sw = D.sw.step a := by rw [e2]; rfl
      have hpw : (D.act1 a).power = if D.power = -1 then -1 else D.power - 1 := by
        rw [e2]
        show (if 0 < D.power then D.power - 1 else D.power) = _
        split <;> split <;> omega
      have hA : D.acts (a :: l) = (D.act1 a).acts l := by show (if D.actE a = 0 then _ else _) = _; rw [if_pos e1]
      have hE : D.actsE (a :: l) = (D.act1 a).actsE l := by show (if D.actE a = 0 then _ else _) = _; rw [if_pos e1]
      rw [hA, hE]
      rcases ih ho (fun b hb => by rw [hl]; exact hf b (by simp [hb])) (by rw [hpw]; split <;> omega) with ⟨h1, h2, h3, h4, h5⟩ | ⟨h1, h2, h3, k, h4, h5⟩
      · left
        refine ⟨?_, h2, h3, by rw [h4, hsw]; rfl, ?_⟩
        · unfold DSt.left at h1 ⊢
          rw [hpw] at h1
          simp only [List.length_cons]
          split at h1 <;> omega
        · rw [h5, hpw]
          simp only [List.length_cons]
          split <;> split <;> omega
      · right
        refine ⟨?_, h2, h3, k + 1, by simpa using h4, ?_⟩
        · unfold DSt.left at h1 ⊢
          rw [hpw] at h1
          simp only [List.length_cons]
          split at h1 <;> omega
        · rw [h5, hsw]; rfl

/-- P holds behind each of the first acts of l. -/
def Along (P : Sw → Prop) : Sw → List DAct → Prop
  | x, [] => P x
  | x, a :: l => P x ∧ Along P (x.step a) l
theorem Along.take {P : Sw → Prop} {x : Sw} {l : List DAct} (h : Along P x l) (k : Nat) : P (x.run (l.take k)) := by
  induction l generalizing x k with
  | nil => rw [List.take_nil]; exact h
  | cons a l ih =>
    cases k with
    | zero => exact h.1
    | succ k => exact ih h.2 k
theorem Along.append {P : Sw → Prop} {x : Sw} {l k : List DAct} (h : Along P x l) (h2 : Along P (x.run l) k) : Along P x (l ++ k) := by
  induction l generalizing x with
  | nil => exact h2
  | cons a l ih => exact ⟨h.1, ih h.2 h2⟩
theorem along_writes {P : Sw → Prop} {S : List ByteArray} {w : List (Nat × ByteArray)} (xs : List (Nat × ByteArray)) (h : ∀ k, k ≤ xs.length → P ⟨S, w ++ xs.take k⟩) : Along P ⟨S, w⟩ (xs.map fun x => .write x.1 x.2) := by
  induction xs generalizing w with
  | nil => have h0 := h 0 (Nat.le_refl _); rw [List.take_zero, List.append_nil] at h0; exact h0
  | cons x xs ih =>
    refine ⟨by simpa using h 0 (Nat.zero_le _), ?_⟩
    show Along P ⟨S, w ++ [(x.1, x.2)]⟩ _
    refine ih fun k hk => ?_
    have := h (k + 1) (by simpa using hk)
    simpa using this
theorem run_writes {S : List ByteArray} {w : List (Nat × ByteArray)} (xs : List (Nat × ByteArray)) : Sw.run ⟨S, w⟩ (xs.map fun x => .write x.1 x.2) = ⟨S, w ++ xs⟩ := by
  induction xs generalizing w with
  | nil => simp [Sw.run]
  | cons x xs ih =>
    show Sw.run ⟨S, w ++ [(x.1, x.2)]⟩ _ = _
    rw [ih]; simp
end Go.Proofs.Ytchilnjocnkodaa
