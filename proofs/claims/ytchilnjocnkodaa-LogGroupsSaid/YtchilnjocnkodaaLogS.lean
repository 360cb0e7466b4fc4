/- A log at rest: what commit, Open and Get do to it; no program. -/
import Derived.Test.YtchilnjocnkodaaLogR
import Derived.Test.YtchilnjocnkodaaLwC
import Derived.Test.YtchilnjocnkodaaSec07
namespace Go.Proofs.Ytchilnjocnkodaa

/-- Nothing waits, nothing is cut off; the home sectors hold H. -/
structure Calm (m : Nat) (H : Nat → ByteArray) (D : DSt) : Prop where
  len : D.safe.length = 32 + m
  st : StA m H D.sw
  wait : D.wait = []
  off : D.off = false

theorem head_nil_nought : headP [] = nought := by decide +kernel
theorem calm_fresh (m : Nat) : Calm m (fun _ => nought) (DSt.fresh (32 + m)) where
  len := by simp [DSt.fresh]
  st := ⟨by
      show (List.replicate (32 + m) nought)[1]? = _
      rw [head_nil_nought, List.getElem?_replicate, if_pos (by omega)], fun j hj => by
      show (List.replicate (32 + m) nought)[32 + j]? = _
      rw [List.getElem?_replicate, if_pos (by omega)], fun y hy => by simp [DSt.fresh, DSt.sw] at hy⟩
  wait := rfl
  off := rfl

theorem sec_of {D : DSt} (hw : D.wait = []) {i : Nat} {s : ByteArray} (h : D.safe[i]? = some s) : D.sec i = s := by
  rw [DSt.sec_eq, hw]
  show ((lastOf [] i).or D.safe[i]?).getD _ = s
  rw [h]; rfl
theorem read_of {D : DSt} (ho : D.off = false) (hw : D.wait = []) {i : Nat} {s : ByteArray} (h : D.safe[i]? = some s) : D.readS i = s ∧ D.readE i = 0 := by
  obtain ⟨h1, h2⟩ := DSt.read_on ho (i := (i : Int)) (by omega) (by have := get_lt h; omega)
  exact ⟨by rw [h1, Int.toNat_natCast, sec_of hw h], h2⟩
section
variable {m : Nat} {H : Nat → ByteArray} {D : DSt} {l : Stg}
/-- An empty head: Open does nothing. -/
theorem open_empty (ho : D.off = false) (hw : D.wait = []) (h : D.safe[1]? = some (headP [])) : D.openE = 0 ∧ D.opened = D := by
  obtain ⟨h1, h2⟩ := read_of ho hw h
  have hP : homesP (D.readS 1) ((D.safe.length : Int) - 32) = some [] := by
    rw [show D.readS 1 = headP [] from h1]
    exact homesP_head (by simp) List.Pairwise.nil (fun _ h => (by cases h)) (fun _ h => (by cases h))
  obtain ⟨e1, e2⟩ := open_some h2 hP
  rw [if_pos rfl] at e1 e2
  exact ⟨e1, e2⟩
theorem Calm.opens (h : Calm m H D) : D.openE = 0 ∧ D.opened = D := open_empty h.off h.wait h.st.head
theorem Calm.get (h : Calm m H D) (stg : Stg) {i : Nat} (hi : i < m) : (LSt.mk D stg false).getS i = over H stg i ∧ (LSt.mk D stg false).getE i = 0 := by
  have hmay : (LSt.mk D stg false).mayE i = 0 := by
    unfold LSt.mayE
    rw [if_neg (by simp), if_neg]
    rw [h.len]; omega
  unfold LSt.getS LSt.getE over
  rw [if_neg (by simp [hmay]), if_neg (by simp [hmay]), Int.toNat_natCast]
  show (match stg.at i with | some s => s | none => D.readS (32 + (i : Int))) = _ ∧ (match stg.at i with | some _ => (0 : Int) | none => D.readE (32 + (i : Int))) = 0
  have := read_of h.off h.wait (h.st.home i hi)
  rw [show ((32 + i : Nat) : Int) = 32 + (i : Int) by omega] at this
  cases stg.at i with
  | some s => exact ⟨rfl, rfl⟩
  | none => exact this
theorem Calm.homes (h : Calm m H D) (stg : Stg) : homesN (LSt.mk D stg false) m = (List.range m).map (over H stg) := by
  unfold homesN
  exact List.map_congr_left fun i hi => (h.get stg (List.mem_range.1 hi)).1
theorem Calm.power (h : Calm m H D) (p : Int) : Calm m H (D.setPower p) := ⟨h.len, h.st, h.wait, h.off⟩

theorem commit_len (l : Stg) : (commitA l).length = 2 * l.length + 6 := by
  unfold commitA installA stageA sealA
  simp; omega
theorem head_fits {n : Nat} (hn : 1 < n) (l : List Nat) (hl : l.length ≤ 30) : ∀ a ∈ sealA l, a.Fits n := by
  intro a ha
  simp only [sealA, List.mem_cons, List.not_mem_nil, or_false] at ha
  rcases ha with rfl | rfl | rfl
  · trivial
  · exact ⟨hn, headP_size hl⟩
  · trivial
theorem install_fits (hg : l.Good m) : ∀ a ∈ installA l, a.Fits (32 + m) := by
  intro a ha
  rcases List.mem_append.1 ha with ha | ha
  · obtain ⟨x, hx, rfl⟩ := List.mem_map.1 ha
    exact ⟨by have := hg.lt x hx; omega, hg.size x hx⟩
  · exact head_fits (by omega) [] (by simp) a ha
theorem commit_fits (hg : l.Good m) : ∀ a ∈ commitA l, a.Fits (32 + m) := by
  intro a ha
  rcases List.mem_append.1 ha with ha | ha
  · obtain ⟨p, hp, rfl⟩ := List.mem_map.1 ha
    have h2 := List.mem_zipIdx hp
    have := hg.len
    exact ⟨by omega, hg.size _ (by rw [h2.2.2]; exact List.getElem_mem _)⟩
  · rcases List.mem_append.1 ha with ha | ha
    · exact head_fits (by omega) _ (by simp; exact hg.len) a ha
    · exact install_fits hg a ha

/-- With the power for all of it. -/
theorem Calm.commits (h : Calm m H D) (hg : l.Good m) (hp : D.left (2 * l.length + 6)) (hp1 : -1 ≤ D.power) : D.actsE (commitA l) = 0 ∧ Calm m (over H l) (D.acts (commitA l)) ∧ (D.power = -1 → (D.acts (commitA l)).power = -1) := by
  have hsw : D.sw = ⟨D.safe, []⟩ := by unfold DSt.sw; rw [h.wait]
  have hst := h.st
  rw [hsw] at hst
  obtain ⟨_, h2, h3⟩ := commit_along hg rfl h.len hst
  rcases acts_run h.off (l := commitA l) (fun a ha => by rw [h.len]; exact commit_fits hg a ha) hp1 with ⟨_, k1, k2, k3, k4⟩ | ⟨k0, _⟩
  · rw [hsw] at k3
    refine ⟨k1, ⟨?_, by rw [k3]; exact h2, by have := congrArg Sw.wait k3; exact this.trans h3, k2⟩, fun hp => by rw [k4, if_pos hp]⟩
    have := congrArg (fun x => x.safe.length) k3
    simp only [DSt.sw] at this
    rw [this, run_safe, h.len]
  · rw [commit_len] at k0
    exact absurd hp k0
/-- With too little. -/
theorem Calm.cut (h : Calm m H D) (hg : l.Good m) (hp : ¬ D.left (2 * l.length + 6)) (hp1 : -1 ≤ D.power) : D.actsE (commitA l) = 7 ∧ Good m H l (D.acts (commitA l)).sw ∧ (D.acts (commitA l)).safe.length = 32 + m := by
  have hsw : D.sw = ⟨D.safe, []⟩ := by unfold DSt.sw; rw [h.wait]
  have hst := h.st
  rw [hsw] at hst
  obtain ⟨h1, _, _⟩ := commit_along hg rfl h.len hst
  rcases acts_run h.off (l := commitA l) (fun a ha => by rw [h.len]; exact commit_fits hg a ha) hp1 with ⟨k0, _⟩ | ⟨_, k1, _, k, _, k2⟩
  · rw [commit_len] at k0
    exact absurd k0 hp
  · rw [hsw] at k2
    refine ⟨k1, by rw [k2]; exact h1.take k, ?_⟩
    have := congrArg (fun x => x.safe.length) k2
    simp only [DSt.sw] at this
    rw [this, run_safe, h.len]

/-- Behind a crash, whatever is kept. -/
structure Found (m : Nat) (H : Nat → ByteArray) (l : Stg) (D : DSt) : Prop where
  len : D.safe.length = 32 + m
  good : Good m H l D.sw
theorem Found.crash (h : Found m H l D) (hg : l.Good m) (k : Nat) : Rest m H l (D.crash k).sw ∧ (D.crash k).safe.length = 32 + m ∧ (D.crash k).off = false ∧ (D.crash k).power = -1 := by
  refine ⟨h.good.crash hg (w := kept k D.wait) (fun y hy => kept_sub hy), ?_, rfl, rfl⟩
  show (puts _ _).length = _
  rw [puts_length, h.len]
theorem held_of (hh : Held l D.safe) (hw : D.wait = []) : D.held (keys l) = l := by
  apply List.ext_getElem?
  intro k
  unfold DSt.held
  rw [List.getElem?_map, List.getElem?_zipIdx]
  unfold keys
  rw [List.getElem?_map]
  cases hk : l[k]? with
  | none => rfl
  | some p =>
    have := sec_of hw (hh k p hk)
    simp only [Option.map_some]
    rw [show 2 + (0 + k) = 2 + k by omega, this]
theorem keys_nil {l : Stg} (h : keys l = []) : l = [] := by cases l with | nil => rfl | cons x l => cases h
/-- Open, with any power, at what a crash left. -/
theorem Found.opens (hg : l.Good m) (hm : m ≤ 512) (hr : Rest m H l D.sw) (hlen : D.safe.length = 32 + m) (ho : D.off = false) (hp : -1 ≤ D.power) : Found m H l D.opened ∧ D.opened.wait.length ≤ 33 := by
  obtain ⟨hw, hc⟩ := hr
  have hw : D.wait = [] := hw
  have same : ∀ h : Good m H l D.sw, D.opened = D → Found m H l D.opened ∧ D.opened.wait.length ≤ 33 := fun h e => by
    rw [e]; exact ⟨⟨hlen, h⟩, by rw [hw]; simp⟩
  rcases hc with h | h | h
  · exact same (.inl h) (open_empty ho hw h.head).2
  · by_cases hl : keys l = []
    · have h1 := h.head
      rw [hl] at h1
      exact same (.inr (.inr (.inl h))) (open_empty ho hw h1).2
    · obtain ⟨h1, h2⟩ := read_of ho hw h.head
      have hP : homesP (D.readS 1) ((D.safe.length : Int) - 32) = some (keys l) := by
        rw [show D.readS 1 = headP (keys l) from h1]
        refine homesP_head (by unfold keys; simp; exact hg.len) ?_ ?_ ?_
        · unfold Rises keys
          rw [List.pairwise_map]; exact hg.ok
        · intro j hj
          obtain ⟨x, hx, rfl⟩ := List.mem_map.1 hj
          have := hg.lt x hx; omega
        · intro j hj
          obtain ⟨x, hx, rfl⟩ := List.mem_map.1 hj
          have := hg.lt x hx; omega
      obtain ⟨_, e2⟩ := open_some h2 hP
      rw [if_neg hl, held_of h.held hw] at e2
      have hsw : D.sw = ⟨D.safe, []⟩ := by unfold DSt.sw; rw [hw]
      rw [hsw] at h
      obtain ⟨a1, a2, a3⟩ := install_along hg rfl hlen h
      have hwait := acts_wait (installA l) D
      have hil : (installA l).length ≤ 33 := by unfold installA sealA; simp; exact hg.len
      rw [e2]
      refine ⟨?_, by rw [hw] at hwait; simp at hwait; omega⟩
      rcases acts_run ho (l := installA l) (fun a ha => by rw [hlen]; exact install_fits hg a ha) hp with ⟨_, _, _, k3, _⟩ | ⟨_, _, _, k, _, k3⟩
      · rw [hsw] at k3
        refine ⟨?_, by rw [k3]; exact .inr (.inr (.inr (.inr a2)))⟩
        have := congrArg (fun x => x.safe.length) k3
        simp only [DSt.sw] at this
        rw [this, run_safe, hlen]
      · rw [hsw] at k3
        refine ⟨?_, by rw [k3]; exact a1.take k⟩
        have := congrArg (fun x => x.safe.length) k3
        simp only [DSt.sw] at this
        rw [this, run_safe, hlen]
  · exact same (.inr (.inr (.inr (.inr h)))) (open_empty ho hw h.head).2
/-- Open with power without bound. -/
theorem Found.opens_whole (hg : l.Good m) (hm : m ≤ 512) (hr : Rest m H l D.sw) (hlen : D.safe.length = 32 + m) (ho : D.off = false) (hp : D.power = -1) : D.openE = 0 ∧ (Calm m H D.opened ∨ Calm m (over H l) D.opened) := by
  obtain ⟨hw, hc⟩ := hr
  have hw : D.wait = [] := hw
  rcases hc with h | h | h
  · obtain ⟨e1, e2⟩ := open_empty ho hw h.head
    rw [e2]
    exact ⟨e1, .inl ⟨hlen, h, hw, ho⟩⟩
  · by_cases hl : keys l = []
    · have h1 := h.head
      rw [hl] at h1
      obtain ⟨e1, e2⟩ := open_empty ho hw h1
      rw [e2]
      obtain rfl := keys_nil hl
      refine ⟨e1, .inl ⟨hlen, ⟨h1, fun j hj => ?_, fun y hy => ?_⟩, hw, ho⟩⟩
      · rcases h.home j hj with h | ⟨s, h, _⟩
        · exact h
        · cases h
      · have hy : y ∈ D.wait := hy
        rw [hw] at hy; cases hy
    · obtain ⟨h1, h2⟩ := read_of ho hw h.head
      have hP : homesP (D.readS 1) ((D.safe.length : Int) - 32) = some (keys l) := by
        rw [show D.readS 1 = headP (keys l) from h1]
        refine homesP_head (by unfold keys; simp; exact hg.len) ?_ ?_ ?_
        · unfold Rises keys
          rw [List.pairwise_map]; exact hg.ok
        · intro j hj
          obtain ⟨x, hx, rfl⟩ := List.mem_map.1 hj
          have := hg.lt x hx; omega
        · intro j hj
          obtain ⟨x, hx, rfl⟩ := List.mem_map.1 hj
          have := hg.lt x hx; omega
      obtain ⟨e1, e2⟩ := open_some h2 hP
      rw [if_neg hl, held_of h.held hw] at e1 e2
      have hsw : D.sw = ⟨D.safe, []⟩ := by unfold DSt.sw; rw [hw]
      rw [hsw] at h
      obtain ⟨_, a2, a3⟩ := install_along hg rfl hlen h
      rcases acts_run ho (l := installA l) (fun a ha => by rw [hlen]; exact install_fits hg a ha) (by omega) with ⟨_, k1, k2, k3, _⟩ | ⟨k0, _⟩
      · rw [hsw] at k3
        rw [e1, e2]
        refine ⟨k1, .inr ⟨?_, by rw [k3]; exact a2, (congrArg Sw.wait k3).trans a3, k2⟩⟩
        have := congrArg (fun x => x.safe.length) k3
        simp only [DSt.sw] at this
        rw [this, run_safe, hlen]
      · exact absurd (.inl hp) k0
  · obtain ⟨e1, e2⟩ := open_empty ho hw h.head
    rw [e2]
    exact ⟨e1, .inr ⟨hlen, h, hw, ho⟩⟩
/-- Where nothing was under way, a crash and an opening change nothing. -/
theorem Calm.crash (h : Calm m H D) (k : Nat) : Calm m H (D.crash k) := by
  have hs : (D.crash k).safe = D.safe := by
    show puts D.safe (kept k D.wait) = _
    rw [h.wait]; rfl
  have hsw : (D.crash k).sw = D.sw := by
    show Sw.mk (D.crash k).safe [] = Sw.mk D.safe D.wait
    rw [hs, h.wait]
  exact ⟨by rw [hs, h.len], by rw [hsw]; exact h.st, rfl, rfl⟩
end
end Go.Proofs.Ytchilnjocnkodaa
