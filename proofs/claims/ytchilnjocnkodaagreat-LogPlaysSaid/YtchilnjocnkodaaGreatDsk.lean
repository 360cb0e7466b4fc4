/- A disk by what it means: safe sectors, waiting writes, power; no program. -/
import Init
namespace Go.Proofs.YtchilnjocnkodaaGreat

/-- A disk's state. -/
structure DSt where
  safe : List ByteArray
  wait : List (Nat × ByteArray)
  power : Int
  off : Bool

/-- The numbers of a disk are as they must be. -/
structure DSt.Ok (D : DSt) : Prop where
  len : D.safe.length ≤ 544
  lo48 : 48 ≤ D.safe.length
  at_ : ∀ x ∈ D.wait, x.1 < D.safe.length
  size : ∀ s ∈ D.safe, s.size = 64
  wsize : ∀ x ∈ D.wait, x.2.size = 64
  lo : -1 ≤ D.power
  hi : D.power ≤ 9223372036854775807

/-- One act's power. -/
def DSt.pay (D : DSt) : DSt := { D with power := if 0 < D.power then D.power - 1 else D.power }
def DSt.die (D : DSt) : DSt := { D with off := true }

/-- All writes of a list, one behind the other. -/
def puts (l : List ByteArray) (w : List (Nat × ByteArray)) : List ByteArray := w.foldl (fun l x => l.set x.1 x.2) l
/-- The last waiting write of i. -/
def lastOf (w : List (Nat × ByteArray)) (i : Nat) : Option ByteArray := (w.reverse.find? (fun x => x.1 == i)).map (·.2)

def DSt.sec (D : DSt) (i : Nat) : ByteArray := ((lastOf D.wait i).or D.safe[i]?).getD ⟨#[]⟩

def DSt.readS (D : DSt) (i : Int) : ByteArray := if D.off = true then ⟨#[]⟩ else if i < 0 ∨ (D.safe.length : Int) ≤ i then ⟨#[]⟩ else D.sec i.toNat
def DSt.readE (D : DSt) (i : Int) : Int := if D.off = true then 7 else if i < 0 ∨ (D.safe.length : Int) ≤ i then 1 else 0

def DSt.writeE (D : DSt) (i : Int) (s : ByteArray) : Int :=
  if D.off = true then 7 else if (i < 0 ∨ (D.safe.length : Int) ≤ i) ∨ s.size ≠ 64 then 1 else if D.power = 0 then 7 else 0
def DSt.write (D : DSt) (i : Int) (s : ByteArray) : DSt :=
  if D.off = true then D else if (i < 0 ∨ (D.safe.length : Int) ≤ i) ∨ s.size ≠ 64 then D else if D.power = 0 then D.die else { D.pay with wait := D.wait ++ [(i.toNat, s)] }

def DSt.flushE (D : DSt) : Int := if D.off = true then 7 else if D.power = 0 then 7 else 0
def DSt.flush (D : DSt) : DSt :=
  if D.off = true then D else if D.power = 0 then D.die else { D.pay with safe := puts D.safe D.wait, wait := [] }

def DSt.setPower (D : DSt) (n : Int) : DSt := { D with power := if n < 0 then -1 else n }

/-- The writes that are kept: the k-th, where bit k modulo 64 is set. -/
def kept (keep : Nat) (w : List (Nat × ByteArray)) : List (Nat × ByteArray) :=
  (w.zipIdx.filter (fun x => keep / 2 ^ (x.2 % 64) % 2 == 1)).map (·.1)
def DSt.crash (D : DSt) (keep : Nat) : DSt := { safe := puts D.safe (kept keep D.wait), wait := [], power := -1, off := false }

theorem puts_length (l : List ByteArray) (w : List (Nat × ByteArray)) : (puts l w).length = l.length := by
  unfold puts
  induction w generalizing l with
  | nil => rfl
  | cons x w ih => simp only [List.foldl_cons]; rw [ih]; simp

theorem puts_snoc (l : List ByteArray) (w : List (Nat × ByteArray)) (x : Nat × ByteArray) : puts l (w ++ [x]) = (puts l w).set x.1 x.2 := by
  simp [puts]
theorem puts_take (l : List ByteArray) {w : List (Nat × ByteArray)} {k : Nat} {x : Nat × ByteArray} (h : w[k]? = some x) : puts l (w.take (k + 1)) = (puts l (w.take k)).set x.1 x.2 := by
  rw [List.take_add_one, h]
  exact puts_snoc _ _ _
theorem mem_puts {l : List ByteArray} {w : List (Nat × ByteArray)} {s : ByteArray} (h : s ∈ puts l w) : s ∈ l ∨ ∃ x ∈ w, x.2 = s := by
  unfold puts at h
  induction w generalizing l with
  | nil => exact .inl h
  | cons x w ih =>
    rcases ih h with h | ⟨y, hy, e⟩
    · rcases List.mem_or_eq_of_mem_set h with h | h
      · exact .inl h
      · exact .inr ⟨x, by simp, h.symm⟩
    · exact .inr ⟨y, by simp [hy], e⟩
theorem lastOf_snoc (l : List (Nat × ByteArray)) (x : Nat × ByteArray) (i : Nat) : lastOf (l ++ [x]) i = if x.1 = i then some x.2 else lastOf l i := by
  unfold lastOf
  rw [List.reverse_append]
  simp only [List.reverse_cons, List.reverse_nil, List.nil_append, List.singleton_append, List.find?_cons]
  by_cases h : x.1 = i
  · simp [h]
  · rw [show (x.1 == i) = false from beq_eq_false_iff_ne.2 h, if_neg h]
theorem lastOf_take {l : List (Nat × ByteArray)} {k : Nat} {x : Nat × ByteArray} (h : l[k]? = some x) (i : Nat) : lastOf (l.take (k + 1)) i = if x.1 = i then some x.2 else lastOf (l.take k) i := by
  rw [List.take_add_one, h]
  exact lastOf_snoc _ _ _
theorem lastOf_cons (l : List (Nat × ByteArray)) (x : Nat × ByteArray) (i : Nat) : lastOf (x :: l) i = (lastOf l i).or (if x.1 = i then some x.2 else none) := by
  unfold lastOf
  rw [List.reverse_cons, List.find?_append]
  by_cases h : x.1 = i
  · cases List.find? (fun y : Nat × ByteArray => y.1 == i) l.reverse <;> simp [h]
  · cases List.find? (fun y : Nat × ByteArray => y.1 == i) l.reverse <;> simp [h]
theorem lastOf_mem {l : List (Nat × ByteArray)} {i : Nat} {s : ByteArray} (h : lastOf l i = some s) : (i, s) ∈ l := by
  unfold lastOf at h
  rw [Option.map_eq_some_iff] at h
  obtain ⟨x, hx, rfl⟩ := h
  have h1 := List.find?_some hx
  have h2 := List.mem_of_find?_eq_some hx
  simp only [beq_iff_eq] at h1
  subst h1
  simpa using h2
theorem lastOf_none_of {l : List (Nat × ByteArray)} {i : Nat} (h : ∀ x ∈ l, x.1 ≠ i) : lastOf l i = none := by
  cases hl : lastOf l i with
  | none => rfl
  | some s => exact absurd rfl (h _ (lastOf_mem hl))
theorem puts_get (l : List ByteArray) (w : List (Nat × ByteArray)) (j : Nat) (hj : j < l.length) : (puts l w)[j]? = (lastOf w j).or l[j]? := by
  induction w generalizing l with
  | nil => simp [puts, lastOf]
  | cons x w ih =>
    have := ih (l.set x.1 x.2) (by simpa using hj)
    show (puts (l.set x.1 x.2) w)[j]? = _
    rw [this, lastOf_cons]
    cases lastOf w j with
    | some s => simp
    | none =>
      by_cases h : x.1 = j
      · subst h; simp [hj]
      · simp [h, List.getElem?_set_ne h]
theorem kept_sub {keep : Nat} {w : List (Nat × ByteArray)} {x : Nat × ByteArray} (h : x ∈ kept keep w) : x ∈ w := by
  unfold kept at h
  obtain ⟨y, hy, rfl⟩ := List.mem_map.1 h
  have := (List.mem_filter.1 hy).1
  obtain ⟨a, b⟩ := y
  have h2 := List.mem_zipIdx this
  simp only at h2 ⊢
  rw [h2.2.2]
  exact List.getElem_mem _
/-- With power for any number of acts. -/
theorem DSt.write_on {D : DSt} (h0 : D.off = false) (hp : D.power = -1) {i : Int} {s : ByteArray} (hi : 0 ≤ i) (hl : i < D.safe.length) (hs : s.size = 64) :
    D.write i s = { D with wait := D.wait ++ [(i.toNat, s)] } ∧ D.writeE i s = 0 := by
  unfold DSt.write DSt.writeE DSt.pay
  rw [h0, hp]
  have h1 : ¬ ((i < 0 ∨ (D.safe.length : Int) ≤ i) ∨ s.size ≠ 64) := by omega
  simp [h1]
theorem DSt.write_bad {D : DSt} (h0 : D.off = false) {i : Int} {s : ByteArray} (h1 : (i < 0 ∨ (D.safe.length : Int) ≤ i) ∨ s.size ≠ 64) : D.write i s = D ∧ D.writeE i s = 1 := by
  unfold DSt.write DSt.writeE
  rw [h0, if_pos h1, if_pos h1]
  simp
theorem DSt.flush_on {D : DSt} (h0 : D.off = false) (hp : D.power = -1) : D.flush = { D with safe := puts D.safe D.wait, wait := [] } ∧ D.flushE = 0 := by
  unfold DSt.flush DSt.flushE DSt.pay
  rw [h0, hp]
  simp
theorem DSt.read_on {D : DSt} (h0 : D.off = false) {i : Int} (hi : 0 ≤ i) (hl : i < D.safe.length) : D.readS i = D.sec i.toNat ∧ D.readE i = 0 := by
  unfold DSt.readS DSt.readE
  have h1 : ¬ (i < 0 ∨ (D.safe.length : Int) ≤ i) := by omega
  rw [h0, if_neg h1, if_neg h1]
  simp
theorem DSt.read_bad {D : DSt} (h0 : D.off = false) {i : Int} (h1 : i < 0 ∨ (D.safe.length : Int) ≤ i) : D.readS i = ⟨#[]⟩ ∧ D.readE i = 1 := by
  unfold DSt.readS DSt.readE
  rw [h0, if_pos h1, if_pos h1]
  simp

/-- What is read is a safe sector's bytes, or a waiting write's. -/
theorem DSt.sec_cases (D : DSt) {i : Nat} (hi : i < D.safe.length) : (∃ s, D.safe[i]? = some s ∧ D.sec i = s ∧ lastOf D.wait i = none) ∨ (∃ s, (i, s) ∈ D.wait ∧ D.sec i = s ∧ lastOf D.wait i = some s) := by
  unfold DSt.sec
  cases h : lastOf D.wait i with
  | none => exact .inl ⟨D.safe[i], List.getElem?_eq_getElem hi, by simp [hi], rfl⟩
  | some s => exact .inr ⟨s, lastOf_mem h, rfl, rfl⟩
/- (each definition's own equation is made here, once) -/
theorem DSt.sec_eq (D : DSt) (i : Nat) : D.sec i = ((lastOf D.wait i).or D.safe[i]?).getD ⟨#[]⟩ := by simp [DSt.sec]
theorem lastOf_eq (w : List (Nat × ByteArray)) (i : Nat) : lastOf w i = (w.reverse.find? (fun x => x.1 == i)).map (·.2) := by simp [lastOf]
theorem puts_eq (l : List ByteArray) (w : List (Nat × ByteArray)) : puts l w = w.foldl (fun l x => l.set x.1 x.2) l := by simp [puts]
end Go.Proofs.YtchilnjocnkodaaGreat
