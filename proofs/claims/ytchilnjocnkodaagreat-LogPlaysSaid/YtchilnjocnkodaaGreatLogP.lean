/- A log by what it means: what is staged, what a commit does; no program. -/
import Derived.Test.YtchilnjocnkodaaGreatDsk
namespace Go.Proofs.YtchilnjocnkodaaGreat

/-- A home sector's number as two bytes. -/
def twoB (h : Nat) : List UInt8 := [UInt8.ofNat (h % 256), UInt8.ofNat (h / 256 % 256)]
/-- A head. -/
def headL (l : List Nat) : List UInt8 := UInt8.ofNat l.length :: (l.flatMap twoB ++ List.replicate (63 - 2 * l.length) 0)
def headP (l : List Nat) : ByteArray := ⟨(headL l).toArray⟩

def byteAt (s : ByteArray) (i : Nat) : Nat := (s.data.toList.getD i 0).toNat
def homeAt (s : ByteArray) (i : Nat) : Nat := byteAt s (1 + 2 * i) + 256 * byteAt s (2 + 2 * i)
/-- Are the first n of a head's home sectors rising, and less than most? -/
def rising (s : ByteArray) (most : Int) (n : Nat) : Bool := (List.range n).all fun i => decide ((homeAt s i : Int) < most) && (i == 0 || decide (homeAt s (i - 1) < homeAt s i))
def homesP (s : ByteArray) (most : Int) : Option (List Nat) :=
  if byteAt s 0 ≤ 30 ∧ rising s most (byteAt s 0) = true ∧ headP ((List.range (byteAt s 0)).map (homeAt s)) = s then some ((List.range (byteAt s 0)).map (homeAt s)) else none

theorem flat_length (l : List Nat) : (l.flatMap twoB).length = 2 * l.length := by
  induction l with
  | nil => rfl
  | cons h l ih => rw [List.flatMap_cons, List.length_append, ih]; simp [twoB]; omega
theorem headL_length {l : List Nat} (h : l.length ≤ 30) : (headL l).length = 64 := by
  unfold headL
  rw [List.length_cons, List.length_append, flat_length, List.length_replicate]
  omega
theorem headP_size {l : List Nat} (h : l.length ≤ 30) : (headP l).size = 64 := by
  show (headL l).toArray.size = 64
  simp [headL_length h]

theorem flat_get {l : List Nat} {i h : Nat} (hi : l[i]? = some h) : (l.flatMap twoB)[2 * i]? = some (UInt8.ofNat (h % 256)) ∧ (l.flatMap twoB)[2 * i + 1]? = some (UInt8.ofNat (h / 256 % 256)) := by
  induction l generalizing i with
  | nil => simp at hi
  | cons x l ih =>
    cases i with
    | zero => simp at hi; subst hi; simp [twoB]
    | succ i =>
      have := ih (i := i) (by simpa using hi)
      simpa [twoB, Nat.mul_add, Nat.add_right_comm] using this

theorem headP_at0 {l : List Nat} (h : l.length ≤ 30) : byteAt (headP l) 0 = l.length := by
  unfold byteAt headP headL
  simp [Nat.mod_eq_of_lt (show l.length < 256 by omega)]
theorem headP_home {l : List Nat} {i h : Nat} (hi : l[i]? = some h) (hh : h < 65536) : homeAt (headP l) i = h := by
  have hil : i < l.length := (List.getElem?_eq_some_iff.1 hi).1
  obtain ⟨e1, e2⟩ := flat_get hi
  unfold homeAt byteAt headP headL
  have f1 : (UInt8.ofNat l.length :: (l.flatMap twoB ++ List.replicate (63 - 2 * l.length) 0)).getD (1 + 2 * i) 0 = UInt8.ofNat (h % 256) := by
    rw [List.getD, Nat.add_comm, List.getElem?_cons_succ, List.getElem?_append_left (by rw [flat_length]; omega), e1]
    rfl
  have f2 : (UInt8.ofNat l.length :: (l.flatMap twoB ++ List.replicate (63 - 2 * l.length) 0)).getD (2 + 2 * i) 0 = UInt8.ofNat (h / 256 % 256) := by
    rw [List.getD, show 2 + 2 * i = (2 * i + 1) + 1 by omega, List.getElem?_cons_succ, List.getElem?_append_left (by rw [flat_length]; omega), e2]
    rfl
  show (List.getD (UInt8.ofNat l.length :: (l.flatMap twoB ++ List.replicate (63 - 2 * l.length) 0)) (1 + 2 * i) 0).toNat + 256 * (List.getD (UInt8.ofNat l.length :: (l.flatMap twoB ++ List.replicate (63 - 2 * l.length) 0)) (2 + 2 * i) 0).toNat = h
  rw [f1, f2, UInt8.toNat_ofNat', UInt8.toNat_ofNat']
  omega

/-- Sorted, without repeats. -/
def Rises (l : List Nat) : Prop := l.Pairwise (· < ·)
theorem homesP_head {l : List Nat} {most : Int} (hl : l.length ≤ 30) (hr : Rises l) (hm : ∀ h ∈ l, (h : Int) < most) (hh : ∀ h ∈ l, h < 65536) : homesP (headP l) most = some l := by
  have h0 := headP_at0 hl
  have hmap : (List.range l.length).map (homeAt (headP l)) = l := by
    apply List.ext_getElem?
    intro i
    rw [List.getElem?_map]
    by_cases hi : i < l.length
    · rw [List.getElem?_range hi, List.getElem?_eq_getElem hi]
      exact congrArg some (headP_home (List.getElem?_eq_getElem hi) (hh _ (List.getElem_mem hi)))
    · rw [List.getElem?_eq_none (by simpa using hi), List.getElem?_eq_none (by omega)]
      rfl
  have hri : rising (headP l) most l.length = true := by
    unfold rising
    rw [List.all_eq_true]
    intro i hi
    have hi : i < l.length := List.mem_range.1 hi
    have e1 := headP_home (List.getElem?_eq_getElem hi) (hh _ (List.getElem_mem hi))
    rw [Bool.and_eq_true, Bool.or_eq_true, beq_iff_eq, decide_eq_true_iff, decide_eq_true_iff, e1]
    refine ⟨hm _ (List.getElem_mem hi), ?_⟩
    by_cases h : i = 0
    · exact .inl h
    · right
      have e2 := headP_home (List.getElem?_eq_getElem (show i - 1 < l.length by omega)) (hh _ (List.getElem_mem _))
      rw [e2]
      exact List.pairwise_iff_getElem.1 hr (i - 1) i (by omega) hi (by omega)
  unfold homesP
  rw [h0, hmap, if_pos ⟨hl, hri, rfl⟩]
theorem homesP_some {s : ByteArray} {most : Int} {l : List Nat} (h : homesP s most = some l) : l.length ≤ 30 ∧ Rises l ∧ (∀ h ∈ l, (h : Int) < most) ∧ headP l = s := by
  unfold homesP at h
  split at h
  · rename_i hc
    obtain ⟨h1, h2, h3⟩ := hc
    simp only [Option.some.injEq] at h
    subst h
    unfold rising at h2
    rw [List.all_eq_true] at h2
    refine ⟨by simpa using h1, ?_, ?_, h3⟩
    · have key : ∀ i, i < byteAt s 0 → (homeAt s i : Int) < most ∧ (i = 0 ∨ homeAt s (i - 1) < homeAt s i) := by
        intro i hi
        have := h2 i (List.mem_range.2 hi)
        simpa using this
      have mono : ∀ j i, i < j → j < byteAt s 0 → homeAt s i < homeAt s j := by
        intro j
        induction j with
        | zero => intro i hi; omega
        | succ j ih =>
          intro i hi hj
          have h4 := (key (j + 1) hj).2
          simp at h4
          by_cases hij : i = j
          · subst hij; exact h4
          · exact Nat.lt_trans (ih i (by omega) (by omega)) h4
      unfold Rises
      rw [List.pairwise_iff_getElem]
      intro i j hi hj hij
      simp only [List.getElem_map, List.getElem_range]
      exact mono j i hij (by simpa using hj)
    · intro h hh
      obtain ⟨i, hi, rfl⟩ := List.mem_map.1 hh
      have := h2 i hi
      simp only [Bool.and_eq_true, decide_eq_true_iff] at this
      exact this.1
  · cases h

/-- What is staged: home sectors, rising, and their bytes. -/
abbrev Stg := List (Nat × ByteArray)
def Stg.at (l : Stg) (i : Nat) : Option ByteArray := (l.find? (fun x => x.1 == i)).map (·.2)
def Stg.put : Stg → Nat → ByteArray → Stg
  | [], i, s => [(i, s)]
  | x :: l, i, s => if i < x.1 then (i, s) :: x :: l else if i = x.1 then (i, s) :: l else x :: Stg.put l i s
def Stg.Ok (l : Stg) : Prop := l.Pairwise (fun x y => x.1 < y.1)

/-- One act on a disk. -/
inductive DAct where
  | write (i : Nat) (s : ByteArray)
  | flush
def DSt.actE (D : DSt) : DAct → Int
  | .write i s => D.writeE i s
  | .flush => D.flushE
def DSt.act1 (D : DSt) : DAct → DSt
  | .write i s => D.write i s
  | .flush => D.flush
/-- Acts one behind the other, up to the first that is not answered 0. -/
def DSt.acts (D : DSt) : List DAct → DSt
  | [] => D
  | a :: l => if D.actE a = 0 then (D.act1 a).acts l else D.act1 a
def DSt.actsE (D : DSt) : List DAct → Int
  | [] => 0
  | a :: l => if D.actE a = 0 then (D.act1 a).actsE l else D.actE a
theorem DSt.acts_cons (D : DSt) (a : DAct) (l : List DAct) : D.acts (a :: l) = if D.actE a = 0 then (D.act1 a).acts l else D.act1 a := rfl
theorem DSt.actsE_cons (D : DSt) (a : DAct) (l : List DAct) : D.actsE (a :: l) = if D.actE a = 0 then (D.act1 a).actsE l else D.actE a := rfl
theorem DSt.acts_append (D : DSt) (l k : List DAct) : D.acts (l ++ k) = if D.actsE l = 0 then (D.acts l).acts k else D.acts l := by
  induction l generalizing D with
  | nil => simp [DSt.acts, DSt.actsE]
  | cons a l ih =>
    rw [List.cons_append, DSt.acts_cons]
    by_cases h : D.actE a = 0
    · have e1 : D.actsE (a :: l) = (D.act1 a).actsE l := by rw [DSt.actsE_cons, if_pos h]
      have e2 : D.acts (a :: l) = (D.act1 a).acts l := by rw [DSt.acts_cons, if_pos h]
      rw [if_pos h, e1, e2]; exact ih _
    · have e1 : D.actsE (a :: l) = D.actE a := by rw [DSt.actsE_cons, if_neg h]
      have e2 : D.acts (a :: l) = D.act1 a := by rw [DSt.acts_cons, if_neg h]
      rw [if_neg h, e1, e2, if_neg h]
theorem DSt.actsE_append (D : DSt) (l k : List DAct) : D.actsE (l ++ k) = if D.actsE l = 0 then (D.acts l).actsE k else D.actsE l := by
  induction l generalizing D with
  | nil => simp [DSt.acts, DSt.actsE]
  | cons a l ih =>
    rw [List.cons_append, DSt.actsE_cons]
    by_cases h : D.actE a = 0
    · have e1 : D.actsE (a :: l) = (D.act1 a).actsE l := by rw [DSt.actsE_cons, if_pos h]
      have e2 : D.acts (a :: l) = (D.act1 a).acts l := by rw [DSt.acts_cons, if_pos h]
      rw [if_pos h, e1, e2]; exact ih _
    · have e1 : D.actsE (a :: l) = D.actE a := by rw [DSt.actsE_cons, if_neg h]
      rw [if_neg h, e1, if_neg h]

/-- A head made safe. -/
def sealA (l : List Nat) : List DAct := [.flush, .write 1 (headP l), .flush]
/-- What the log holds is written home, and the head emptied. -/
def installA (l : Stg) : List DAct := l.map (fun x => .write (32 + x.1) x.2) ++ sealA []
def stageA (l : Stg) : List DAct := l.zipIdx.map (fun p => .write (2 + p.2) p.1.2)
def commitA (l : Stg) : List DAct := stageA l ++ (sealA (l.map (·.1)) ++ installA l)
/-- What a log's sectors hold. -/
def DSt.held (D : DSt) (l : List Nat) : Stg := l.zipIdx.map (fun p => (p.1, D.sec (2 + p.2)))

structure LSt where
  D : DSt
  stg : Stg
  dead : Bool

/-- Opened: an error, and the disk behind it. -/
def DSt.openE (D : DSt) : Int :=
  if D.readE 1 ≠ 0 then D.readE 1 else match homesP (D.readS 1) ((D.safe.length : Int) - 32) with
    | none => 6
    | some l => if l = [] then 0 else D.actsE (installA (D.held l))
def DSt.opened (D : DSt) : DSt :=
  if D.readE 1 ≠ 0 then D else match homesP (D.readS 1) ((D.safe.length : Int) - 32) with
    | none => D
    | some l => if l = [] then D else D.acts (installA (D.held l))

def LSt.mayE (L : LSt) (i : Int) : Int := if L.dead = true then 7 else if i < 0 ∨ (L.D.safe.length : Int) - 32 ≤ i then 1 else 0
def LSt.getS (L : LSt) (i : Int) : ByteArray := if L.mayE i ≠ 0 then ⟨#[]⟩ else match L.stg.at i.toNat with | some s => s | none => L.D.readS (32 + i)
def LSt.getE (L : LSt) (i : Int) : Int := if L.mayE i ≠ 0 then L.mayE i else match L.stg.at i.toNat with | some _ => 0 | none => L.D.readE (32 + i)
def LSt.setE (L : LSt) (i : Int) (s : ByteArray) : Int := if L.mayE i ≠ 0 then L.mayE i else if s.size ≠ 64 then 1 else if L.stg.at i.toNat = none ∧ L.stg.length = 30 then 4 else 0
def LSt.set (L : LSt) (i : Int) (s : ByteArray) : LSt := if L.setE i s ≠ 0 then L else { L with stg := L.stg.put i.toNat s }
def LSt.count (L : LSt) : Nat := if L.dead = true then 0 else L.stg.length
def LSt.abort (L : LSt) : LSt := { L with stg := [] }
def LSt.commitE (L : LSt) : Int := if L.dead = true then 7 else if L.stg = [] then 0 else L.D.actsE (commitA L.stg)
def LSt.commit (L : LSt) : LSt := if L.dead = true then L else if L.stg = [] then L else
  if L.D.actsE (commitA L.stg) = 0 then ⟨L.D.acts (commitA L.stg), [], false⟩ else ⟨L.D.acts (commitA L.stg), L.stg, true⟩
end Go.Proofs.YtchilnjocnkodaaGreat
