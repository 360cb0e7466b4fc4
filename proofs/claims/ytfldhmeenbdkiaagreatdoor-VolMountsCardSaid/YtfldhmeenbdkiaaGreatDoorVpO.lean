/- A whole volume, by its sectors alone: what a reading of the bytes asks for; it is just what a volume is. -/
import Derived.Test.YtfldhmeenbdkiaaGreatDoorMR
namespace Go.Proofs.YtfldhmeenbdkiaaGreatDoor

def lastL (x : Ino) : List Nat := if 5 < sectorsP x.size then [x.a5] else []
def ownL (X : Sec) (x : Ino) : List Nat := if x.kind = 0 then [] else (List.range (sectorsP x.size)).map (xat X x) ++ lastL x
/-- An inode may be so. -/
structure InoP (m : Nat) (X : Sec) (x : Ino) : Prop where
  free : x.kind = 0 → x = Ino.free
  kind : x.kind ≤ 2
  size : x.size ≤ 2368
  a5z : sectorsP x.size ≤ 5 → x.a5 = 0
  a5 : 5 < sectorsP x.size → 9 ≤ x.a5 ∧ x.a5 < m
  inn : ∀ k, k < sectorsP x.size → 9 ≤ xat X x k ∧ xat X x k < m
  zero : ∀ k, k < 37 → sectorsP x.size ≤ k → k < 5 ∨ 5 < sectorsP x.size → xat X x k = 0
def marks (U : Nat → Bool) (l : List Nat) : Nat → Bool := fun i => U i || decide (i ∈ l)
/-- Sectors that are nobody's, no two the same. -/
def Apart (U : Nat → Bool) (l : List Nat) : Prop := l.Nodup ∧ ∀ i ∈ l, U i = false
def usedTo (X : Sec) : Nat → Nat → Bool
  | 0 => fun i => decide (i < 9)
  | n + 1 => marks (usedTo X n) (ownL X (xinode X n))
def InoT (m : Nat) (X : Sec) (n : Nat) : Prop := InoP m X (xinode X n) ∧ Apart (usedTo X n) (ownL X (xinode X n))
structure Whole (m : Nat) (X : Sec) : Prop where
  each : ∀ n, n < 32 → InoT m X n
  map : ∀ i, i < 512 → usedP (X 0) i = usedTo X 32 i
def nodesX (X : Sec) : Nat → Node := fun n => nodeX X (xinode X n)

theorem nodesX_len (X : Sec) (j : Nat) : (nodesX X j).data.length = (xinode X j).size := by
  unfold nodesX nodeX
  show (dataX X (xinode X j)).length = _
  rw [dataX_length]
theorem marks_at (U : Nat → Bool) (l : List Nat) (i : Nat) : marks U l i = true ↔ U i = true ∨ i ∈ l := by unfold marks; simp
theorem usedTo_iff (X : Sec) (i : Nat) : ∀ n, usedTo X n i = true ↔ i < 9 ∨ ∃ j, j < n ∧ i ∈ ownL X (xinode X j)
  | 0 => by simp [usedTo]
  | n + 1 => by
    unfold usedTo
    rw [marks_at, usedTo_iff X i n]
    constructor
    · rintro ((h | ⟨j, hj, h⟩) | h)
      · exact .inl h
      · exact .inr ⟨j, by omega, h⟩
      · exact .inr ⟨n, by omega, h⟩
    · rintro (h | ⟨j, hj, h⟩)
      · exact .inl (.inl h)
      · by_cases e : j = n
        · subst e; exact .inr h
        · exact .inl (.inr ⟨j, by omega, h⟩)

section
variable {m : Nat} {X : Sec} {A : Nat → Node} {x : Ino}
theorem own_list (h : InoP m X x) (i : Nat) : ownF X ⟨x, fun k => decide (k < sectorsP x.size)⟩ i ↔ i ∈ ownL X x := by
  unfold ownF ownL
  by_cases hk : x.kind = 0
  · rw [if_pos hk, h.free hk]
    constructor
    · rintro (⟨h1, _⟩ | ⟨k, h1, _⟩)
      · exact absurd rfl h1
      · have : k < sectorsP Ino.free.size := of_decide_eq_true h1
        simp [Ino.free, sectorsP] at this
    · intro h1; cases h1
  · rw [if_neg hk, List.mem_append, List.mem_map]
    unfold lastL
    constructor
    · rintro (⟨h1, rfl⟩ | ⟨k, h1, rfl⟩)
      · right
        have : 5 < sectorsP x.size := by
          rcases Nat.lt_or_ge 5 (sectorsP x.size) with h2 | h2
          · exact h2
          · exact absurd (h.a5z h2) h1
        rw [if_pos this]; exact List.mem_singleton.2 rfl
      · exact .inl ⟨k, List.mem_range.2 (of_decide_eq_true h1), rfl⟩
    · rintro (⟨k, h1, rfl⟩ | h1)
      · exact .inr ⟨k, decide_eq_true (List.mem_range.1 h1), rfl⟩
      · split at h1
        · rename_i h5
          obtain rfl := List.mem_singleton.1 h1
          exact .inl ⟨by have := h.a5 h5; show x.a5 ≠ 0; omega, rfl⟩
        · cases h1
theorem own_len (h : InoP m X x) : (ownL X x).length = takesP x.size := by
  unfold ownL
  by_cases hk : x.kind = 0
  · rw [if_pos hk, h.free hk]; rfl
  · rw [if_neg hk, List.length_append, List.length_map, List.length_range]
    unfold lastL takesP
    split <;> simp
theorem own_in (h : InoP m X x) {i : Nat} (hi : i ∈ ownL X x) : 9 ≤ i ∧ i < m := by
  unfold ownL at hi
  split at hi
  · cases hi
  · rcases List.mem_append.1 hi with h1 | h1
    · obtain ⟨k, hk, rfl⟩ := List.mem_map.1 h1
      exact h.inn k (List.mem_range.1 hk)
    · unfold lastL at h1
      split at h1
      · rename_i h5
        obtain rfl := List.mem_singleton.1 h1
        exact h.a5 h5
      · cases h1
theorem cnt_mark {U : Nat → Bool} {l : List Nat} (hn : l.Nodup) (hl : ∀ i ∈ l, i < m ∧ U i = false) :
    ((List.range m).filter fun i => !marks U l i).length + l.length = ((List.range m).filter fun i => !U i).length := by
  have h1 : ((List.range m).filter fun i => !U i && decide (i ∈ l)).Perm l := by
    refine (List.perm_ext_iff_of_nodup (List.Pairwise.filter _ List.nodup_range) hn).2 fun i => ?_
    rw [List.mem_filter, List.mem_range]
    constructor
    · rintro ⟨_, h⟩; simp at h; exact h.2
    · intro h; have := hl i h; exact ⟨this.1, by simp [this.2, h]⟩
  have h2 : ∀ l' : List Nat, (l'.filter fun i => !U i).length = (l'.filter fun i => !marks U l i).length + (l'.filter fun i => !U i && decide (i ∈ l)).length := by
    intro l'
    induction l' with
    | nil => rfl
    | cons a l' ih =>
      rw [List.filter_cons, List.filter_cons, List.filter_cons]
      have e : marks U l a = (U a || decide (a ∈ l)) := rfl
      rw [e]
      cases hU : U a <;> by_cases ha : a ∈ l <;> simp [hU, ha] <;> omega
  rw [h2 (List.range m), h1.length_eq]
theorem cnt_to (hm : 9 ≤ m) : ∀ n, (∀ j, j < n → InoT m X j) → ∀ B : Nat → Node, (∀ j, j < n → (B j).data.length = (xinode X j).size) → ((List.range m).filter fun i => !usedTo X n i).length + sumT B n + 9 = m
  | 0, _, _, _ => by
    have : ∀ k, ((List.range k).filter fun i => !usedTo X 0 i).length = k - 9 := by
      intro k
      induction k with
      | zero => rfl
      | succ k ih =>
        rw [List.range_succ, List.filter_append, List.length_append, ih]
        unfold usedTo
        by_cases h : k < 9
        · simp [h]; omega
        · simp [h]; omega
    rw [this]
    show m - 9 + 0 + 9 = m
    omega
  | n + 1, h, B, hB => by
    have ih := cnt_to hm n (fun j hj => h j (by omega)) B (fun j hj => hB j (by omega))
    have hn := h n (by omega)
    have := cnt_mark (m := m) (U := usedTo X n) hn.2.1 (fun i hi => ⟨(own_in hn.1 hi).2, hn.2.2 i hi⟩)
    have hl := own_len hn.1
    unfold sumT
    rw [hB n (by omega), ← hl]
    unfold usedTo
    omega
theorem links_lt (n : Nat) : (xinode X n).links < 256 := by unfold xinode decodeP; exact byteAt_lt _ _
theorem xroom_eq (F : Nat → Bool) (h : ∀ i, i < 512 → usedP (X 0) i = F i) (hm : m ≤ 512) : xroom m X = ((List.range m).filter fun i => !F i).length :=
  congrArg List.length (List.filter_congr (p := fun i => !usedP (X 0) i) (q := fun i => !F i) fun i hi => by
    show (!usedP (X 0) i) = (!F i)
    rw [h i (by have := List.mem_range.1 hi; omega)])
/-- A whole one is a volume. -/
theorem Whole.vol (h : Whole m X) (h16 : 16 ≤ m) (h512 : m ≤ 512) (hs : ∀ i, i < m → (X i).size = 64) : IsVol m X (nodesX X) := by
  have hmem : ∀ n, n < 32 → ∀ i, ownF X (base X n) i ↔ i ∈ ownL X (xinode X n) := fun n hn i => own_list (h.each n hn).1 i
  have hused : ∀ i, usedTo X 32 i = true ↔ i < 9 ∨ ∃ n, n < 32 ∧ ownF X (base X n) i := fun i => by
    rw [usedTo_iff]
    constructor
    · rintro (h1 | ⟨j, hj, h1⟩)
      · exact .inl h1
      · exact .inr ⟨j, hj, (hmem j hj i).2 h1⟩
    · rintro (h1 | ⟨j, hj, h1⟩)
      · exact .inl h1
      · exact .inr ⟨j, hj, (hmem j hj i).1 h1⟩
  have hlt : ∀ n n', n < n' → n' < 32 → ∀ i, i ∈ ownL X (xinode X n) → ¬ i ∈ ownL X (xinode X n') := fun n n' hlt hn' i h1 h2 => by
    have h3 := (h.each n' hn').2.2 i h2
    have h4 := (usedTo_iff X i n').2 (.inr ⟨n, hlt, h1⟩)
    rw [h3] at h4; cases h4
  refine ⟨⟨h16, h512, hs, fun n hn => ?_, fun n n' hn hn' hne i h1 h2 => ?_, fun i hi => ?_⟩, fun n hn => ?_, fun n hn => rfl, ?_⟩
  · have hp := (h.each n hn).1
    have ha := (h.each n hn).2
    have hz5 : 5 < sectorsP (xinode X n).size → (xinode X n).a5 ≠ 0 := fun h5 => by have := hp.a5 h5; omega
    have hn5 : (xinode X n).a5 ≠ 0 → 5 < sectorsP (xinode X n).size := fun h5 => by
      rcases Nat.lt_or_ge 5 (sectorsP (xinode X n).size) with h2 | h2
      · exact h2
      · exact absurd (hp.a5z h2) h5
    have hkz : ∀ k, k < sectorsP (xinode X n).size → (xinode X n).kind ≠ 0 := fun k hk h0 => by
      have := hp.free h0
      rw [this] at hk
      simp [Ino.free, sectorsP] at hk
    refine ⟨fun k hk => ?_, fun k hk h5 => ?_, fun k hk hf h5 => ?_, fun i hi => own_in hp ((hmem n hn i).1 hi), fun k l hk hl e => ?_, fun k hk h5 e => ?_⟩
    · have h1 : k < sectorsP (xinode X n).size := of_decide_eq_true hk
      have := sectors_le _ hp.size
      omega
    · have h1 : k < sectorsP (xinode X n).size := of_decide_eq_true hk
      exact hz5 (by omega)
    · have h1 : ¬ k < sectorsP (xinode X n).size := of_decide_eq_false hf
      exact hp.zero k hk (by omega) (h5.imp id hn5)
    · have h1 : k < sectorsP (xinode X n).size := of_decide_eq_true hk
      have h2 : l < sectorsP (xinode X n).size := of_decide_eq_true hl
      have hnd := ha.1
      unfold ownL at hnd
      rw [if_neg (hkz k h1), List.nodup_append] at hnd
      have hnd := List.pairwise_map.1 hnd.1
      rcases Nat.lt_trichotomy k l with h3 | h3 | h3
      · have := List.pairwise_iff_getElem.1 hnd k l (by simpa using h1) (by simpa using h2) h3
        simp only [List.getElem_range] at this
        exact absurd e this
      · exact h3
      · have := List.pairwise_iff_getElem.1 hnd l k (by simpa using h2) (by simpa using h1) h3
        simp only [List.getElem_range] at this
        exact absurd e.symm this
    · have h1 : k < sectorsP (xinode X n).size := of_decide_eq_true hk
      have hnd := ha.1
      unfold ownL at hnd
      rw [if_neg (hkz k h1), List.nodup_append] at hnd
      refine hnd.2.2 (xat X (xinode X n) k) (List.mem_map.2 ⟨k, List.mem_range.2 h1, rfl⟩) (xinode X n).a5 (by unfold lastL; rw [if_pos (hn5 h5)]; exact List.mem_singleton.2 rfl) e
  · have k1 := (hmem n hn i).1 h1
    have k2 := (hmem n' hn' i).1 h2
    rcases Nat.lt_or_ge n n' with h3 | h3
    · exact hlt n n' h3 hn' i k1 k2
    · exact hlt n' n (by omega) hn i k2 k1
  · rw [h.map i hi]; exact hused i
  · have hp := (h.each n hn).1
    exact ⟨hp.kind, links_lt n, hp.size, hp.free, hp.a5z⟩
  · have h1 := cnt_to (m := m) (X := X) (by omega) 32 h.each (nodesX X) (fun j hj => nodesX_len X j)
    have hm := h.map
    obtain ⟨F, hF⟩ : ∃ F, F = usedTo X 32 := ⟨_, rfl⟩
    rw [← hF] at h1 hm
    clear hF
    have h2 := xroom_eq (m := m) (X := X) F hm (by omega)
    rw [← h2] at h1
    generalize sumT (nodesX X) 32 = z at h1 ⊢
    omega
/-- A volume is a whole one. -/
theorem IsVol.whole (h : IsVol m X A) : Whole m X := by
  have hp : ∀ n, n < 32 → InoP m X (xinode X n) := fun n hn => by
    have hg := h.good n hn
    have ho := h.ok hn
    have h5 : 5 < sectorsP (xinode X n).size → (xinode X n).a5 ≠ 0 := fun h5 => ho.p5 5 (base_P X h5) (Nat.le_refl _)
    refine ⟨hg.free, hg.kind, hg.size, hg.a5, fun h6 => ho.inb _ (own_a5 (h5 h6)), fun k hk => ho.inb _ (.inr ⟨k, base_P X hk, rfl⟩), fun k hk hge hc => ?_⟩
    exact ho.zero k hk (decide_eq_false (by omega)) (hc.imp id h5)
  have hmem : ∀ n, n < 32 → ∀ i, ownF X (base X n) i ↔ i ∈ ownL X (xinode X n) := fun n hn i => own_list (hp n hn) i
  have hap : ∀ n, n < 32 → Apart (usedTo X n) (ownL X (xinode X n)) := fun n hn => by
    have ho := h.ok hn
    have hg := h.good n hn
    refine ⟨?_, fun i hi => ?_⟩
    · unfold ownL
      split
      · exact List.nodup_nil
      · rw [List.nodup_append]
        refine ⟨?_, ?_, ?_⟩
        · rw [List.Nodup, List.pairwise_map]
          refine List.Pairwise.imp_of_mem ?_ List.nodup_range
          intro a b ha hb hne e
          exact hne (ho.inj a b (base_P X (List.mem_range.1 ha)) (base_P X (List.mem_range.1 hb)) e)
        · unfold lastL
          split
          · exact List.nodup_cons.2 ⟨by simp, List.nodup_nil⟩
          · exact List.nodup_nil
        · intro a ha b hb e
          obtain ⟨k, hk, rfl⟩ := List.mem_map.1 ha
          unfold lastL at hb
          split at hb
          · rename_i h5
            obtain rfl := List.mem_singleton.1 hb
            have : (xinode X n).a5 ≠ 0 := ho.p5 5 (base_P X h5) (Nat.le_refl _)
            exact ho.ind k (base_P X (List.mem_range.1 hk)) this e
          · cases hb
    · cases hU : usedTo X n i with
      | false => rfl
      | true =>
        have hb := own_in (hp n hn) hi
        rcases (usedTo_iff X i n).1 hU with h1 | ⟨j, hj, h1⟩
        · omega
        · exact absurd ((hmem n hn i).2 hi) (h.inv.apart j n (by omega) hn (by omega) i ((hmem j (by omega) i).2 h1))
  refine ⟨fun n hn => ⟨hp n hn, hap n hn⟩, fun i hi => ?_⟩
  have h1 := h.inv.map i hi
  have h2 := usedTo_iff X i 32
  have h3 : usedP (X 0) i = true ↔ usedTo X 32 i = true := by
    rw [h1, h2]
    constructor
    · rintro (h | ⟨j, hj, h⟩)
      · exact .inl h
      · exact .inr ⟨j, hj, (hmem j hj i).1 h⟩
    · rintro (h | ⟨j, hj, h⟩)
      · exact .inl h
      · exact .inr ⟨j, hj, (hmem j hj i).2 h⟩
  cases hA : usedP (X 0) i <;> cases hB : usedTo X 32 i <;> simp_all
end
end Go.Proofs.YtfldhmeenbdkiaaGreatDoor
