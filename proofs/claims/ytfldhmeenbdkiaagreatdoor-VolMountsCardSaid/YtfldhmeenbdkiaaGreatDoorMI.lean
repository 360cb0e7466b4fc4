/- The statements' own helpers of layer 7: shown. The statements' own helpers of layer 7: sets, homes. The statements' own helpers of layer 7: homes. A log at rest: what commit, Open and Get do to it; no program. What the statements of layer 7 ask, in plain words; rows of transactions. -/
import Derived.Test.YtfldhmeenbdkiaaGreatDoorMH
import Derived.Test.YtfldhmeenbdkiaaGreatDoorMD
import Derived.Deep.RegionHeld3
import Derived.Test.YtfldhmeenbdkiaaGreatDoorMB
namespace Go.Proofs.YtfldhmeenbdkiaaGreatDoor
open Go.RowKit

def tA : ByteArray := secOf ⟨#[97]⟩
def tB : ByteArray := secOf ⟨#[98]⟩
def exD : DSt := DSt.fresh 48
def exL0 : LSt := ⟨exD.opened, [], false⟩
def exL2 : LSt := (exL0.set 0 tA).set 5 tB
def exL3 : LSt := { exL2 with D := exL2.D.setPower 4 }
def exD5 : DSt := exL3.commit.D.crash 1
def exL6 : LSt := ⟨exD5.opened, [], false⟩
theorem ex_facts : exD.openE = 0 ∧ exL2.count = 2 ∧ exL3.commitE = 7 ∧ exD5.openE = 0 ∧ exL6.getS 0 = tA ∧ exL6.getS 5 = tB := by
  refine ⟨?_, ?_, ?_, ?_, ?_, ?_⟩ <;> decide +kernel
theorem ex_waits : exD.wait.length = 0 ∧ exL3.D.wait.length = 0 ∧ exL3.commit.D.wait.length ≤ 100 ∧ exD5.wait.length = 0 ∧ exL6.D.wait.length = 0 := by
  refine ⟨?_, ?_, ?_, ?_, ?_⟩ <;> decide +kernel

end Go.Proofs.YtfldhmeenbdkiaaGreatDoor

namespace Go.Proofs.YtfldhmeenbdkiaaGreatDoor
open Go.RowKit

/-- A transaction that comes in. -/
structure TxD where
  I : List Int
  S : List ByteArray
def TxD.pairs (t : TxD) : List (Int × ByteArray) := t.I.zip t.S
def setsL (L : LSt) (l : List (Int × ByteArray)) : LSt := l.foldl (fun L p => L.set p.1 (secOf p.2)) L
def i64s (l : List Int) : List Value := l.map (.int .i64)
/-- As it lies in a world. -/
structure TxAt (w : World) (a1 a2 : Option Addr) (c1 c2 : Nat) (t : TxD) : Prop where
  I : Srcs w (.slice a1 t.I.length c1) t.I.length 1 (i64s t.I)
  S : Srcs w (.slice a2 t.S.length c2) t.S.length 1 (strs t.S)
  text : ∀ s ∈ t.S, s.size ≤ 140737488351232
  lenI : t.I.length ≤ 140737488351232
  lenS : t.S.length ≤ 140737488351232
  capI : t.I.length ≤ c1

theorem setsL_take (L : LSt) {l : List (Int × ByteArray)} {k : Nat} {p : Int × ByteArray} (h : l[k]? = some p) : setsL L (l.take (k + 1)) = (setsL L (l.take k)).set p.1 (secOf p.2) := by
  unfold setsL
  rw [List.take_add_one, h]
  simp
theorem setsL_good {L : LSt} (h : L.Ok) (l : List (Int × ByteArray)) : (setsL L l).Ok := by
  unfold setsL
  induction l generalizing L with
  | nil => exact h
  | cons p l ih => exact ih (set_good h _ _)
theorem setsL_D (L : LSt) (l : List (Int × ByteArray)) : (setsL L l).D = L.D ∧ (setsL L l).dead = L.dead := by
  unfold setsL
  induction l generalizing L with
  | nil => exact ⟨rfl, rfl⟩
  | cons p l ih =>
    have h1 := set_D L p.1 (secOf p.2)
    have h2 := ih (L := L.set p.1 (secOf p.2))
    exact ⟨h2.1.trans h1.1, h2.2.trans h1.2⟩
theorem zip_some {l : List Int} {k : List ByteArray} {i : Nat} (h1 : i < l.length) (h2 : i < k.length) : (l.zip k)[i]? = some (l[i], k[i]) := by
  rw [List.getElem?_eq_getElem (by rw [List.length_zip]; omega)]
  simp

section
variable {w0 w : World} {b d : Nat} {L : LSt} {B : Asr}

theorem tx_cells {wr : World} {a1 a2 : Option Addr} {c1 c2 : Nat} {t : TxD} (h : TxAt w0 a1 a2 c1 c2 t) (hf : Fr Nob w0 wr) {k : Nat} {i : Int} {s : ByteArray} (h1 : t.I[k]? = some i) (h2 : t.S[k]? = some s) :
    ∃ g1 o1 g2 o2, a1 = some ⟨g1, o1, none⟩ ∧ a2 = some ⟨g2, o2, none⟩ ∧ wr.cell? ⟨g1, o1 + k, none⟩ = some (.int .i64 i) ∧ wr.cell? ⟨g2, o2 + k, none⟩ = some (.string s) := by
  obtain ⟨g1, o1, e1, q1⟩ := h.I.at (j := k) (u := .int .i64 i) (by simp [i64s, h1])
  obtain ⟨g2, o2, e2, q2⟩ := h.S.at (j := k) (u := .string s) (by simp [strs, h2])
  exact ⟨g1, o1, g2, o2, e1, e2, hf.cell q1 (fun h => h), hf.cell q2 (fun h => h)⟩

end
end Go.Proofs.YtfldhmeenbdkiaaGreatDoor

namespace Go.Proofs.YtfldhmeenbdkiaaGreatDoor
open Go.RowKit

def homesN (L : LSt) (n : Nat) : List ByteArray := (List.range n).map fun i => L.getS (i : Nat)
def homesL (L : LSt) : List ByteArray := homesN L (L.D.safe.length - 32)
theorem homesN_succ (L : LSt) (n : Nat) : homesN L (n + 1) = homesN L n ++ [L.getS (n : Nat)] := by
  unfold homesN
  rw [List.range_succ, List.map_append]
  rfl
theorem homesN_length (L : LSt) (n : Nat) : (homesN L n).length = n := by simp [homesN]
/-- What homes answers. -/
def HomesAt (w0 : World) (b d : Nat) (L : LSt) (B : Asr) (e : Ending) (w' : World) : Prop :=
  ∃ ao c, e = .returned (.slice ao (homesL L).length c) ∧ LV Nob w0 b d L (Star (rowA tStr 1 (.slice ao (homesL L).length c) (homesL L).length (strs (homesL L))) B) w'

section
variable {w0 w : World} {b d : Nat} {L : LSt} {A B : Asr} {S0 : Nat → Prop}
theorem LV.front (h : LV S0 w0 b d L (Star A B) w) : Lv S0 w0 (Star A (Star (lgA b d L.stg L.dead) (Star (dskA kD d L.D) B))) w :=
  h.map fun _ h => star_flip (star_right h fun _ h => star_flip h)
theorem LV.back (h : Lv S0 w0 (Star A (Star (lgA b d L.stg L.dead) (Star (dskA kD d L.D) B))) w) : LV S0 w0 b d L (Star A B) w :=
  h.map fun _ h => star_right (star_flip h) fun _ h => star_flip h

end
end Go.Proofs.YtfldhmeenbdkiaaGreatDoor

namespace Go.Proofs.YtfldhmeenbdkiaaGreatDoor

/-- Nothing waits, nothing is cut off; the home sectors hold H. -/
structure Calm (m : Nat) (H : Nat → ByteArray) (D : DSt) : Prop where
  len : D.safe.length = 32 + m
  st : StA m H D.sw
  wait : D.wait = []
  off : D.off = false

theorem head_nil_nought : headP [] = nought := by decide +kernel
theorem calm_fresh (m : Nat) : Calm m (fun _ => nought) (DSt.fresh (32 + m)) where
  len := by simp [DSt.fresh]
  st := ⟨by
      show (List.replicate (32 + m) nought)[1]? = _
      rw [head_nil_nought, List.getElem?_replicate, if_pos (by omega)], fun j hj => by
      show (List.replicate (32 + m) nought)[32 + j]? = _
      rw [List.getElem?_replicate, if_pos (by omega)], fun y hy => by simp [DSt.fresh, DSt.sw] at hy⟩
  wait := rfl
  off := rfl

theorem sec_of {D : DSt} (hw : D.wait = []) {i : Nat} {s : ByteArray} (h : D.safe[i]? = some s) : D.sec i = s := by
  rw [DSt.sec_eq, hw]
  show ((lastOf [] i).or D.safe[i]?).getD _ = s
  rw [h]; rfl
theorem read_of {D : DSt} (ho : D.off = false) (hw : D.wait = []) {i : Nat} {s : ByteArray} (h : D.safe[i]? = some s) : D.readS i = s ∧ D.readE i = 0 := by
  obtain ⟨h1, h2⟩ := DSt.read_on ho (i := (i : Int)) (by omega) (by have := get_lt h; omega)
  exact ⟨by rw [h1, Int.toNat_natCast, sec_of hw h], h2⟩
section
variable {m : Nat} {H : Nat → ByteArray} {D : DSt} {l : Stg}
/-- An empty head: Open does nothing. -/
theorem open_empty (ho : D.off = false) (hw : D.wait = []) (h : D.safe[1]? = some (headP [])) : D.openE = 0 ∧ D.opened = D := by
  obtain ⟨h1, h2⟩ := read_of ho hw h
  have hP : homesP (D.readS 1) ((D.safe.length : Int) - 32) = some [] := by
    rw [show D.readS 1 = headP [] from h1]
    exact homesP_head (by simp) List.Pairwise.nil (fun _ h => (by cases h)) (fun _ h => (by cases h))
  obtain ⟨e1, e2⟩ := open_some h2 hP
  rw [if_pos rfl] at e1 e2
  exact ⟨e1, e2⟩
theorem Calm.opens (h : Calm m H D) : D.openE = 0 ∧ D.opened = D := open_empty h.off h.wait h.st.head
theorem Calm.get (h : Calm m H D) (stg : Stg) {i : Nat} (hi : i < m) : (LSt.mk D stg false).getS i = over H stg i ∧ (LSt.mk D stg false).getE i = 0 := by
  have hmay : (LSt.mk D stg false).mayE i = 0 := by
    unfold LSt.mayE
    rw [if_neg (by simp), if_neg]
    rw [h.len]; omega
  unfold LSt.getS LSt.getE over
  rw [if_neg (by simp [hmay]), if_neg (by simp [hmay]), Int.toNat_natCast]
  show (match stg.at i with | some s => s | none => D.readS (32 + (i : Int))) = _ ∧ (match stg.at i with | some _ => (0 : Int) | none => D.readE (32 + (i : Int))) = 0
  have := read_of h.off h.wait (h.st.home i hi)
  rw [show ((32 + i : Nat) : Int) = 32 + (i : Int) by omega] at this
  cases stg.at i with
  | some s => exact ⟨rfl, rfl⟩
  | none => exact this
theorem Calm.homes (h : Calm m H D) (stg : Stg) : homesN (LSt.mk D stg false) m = (List.range m).map (over H stg) := by
  unfold homesN
  exact List.map_congr_left fun i hi => (h.get stg (List.mem_range.1 hi)).1
theorem Calm.power (h : Calm m H D) (p : Int) : Calm m H (D.setPower p) := ⟨h.len, h.st, h.wait, h.off⟩

theorem commit_len (l : Stg) : (commitA l).length = 2 * l.length + 6 := by
  unfold commitA installA stageA sealA
  simp; omega
theorem head_fits {n : Nat} (hn : 1 < n) (l : List Nat) (hl : l.length ≤ 30) : ∀ a ∈ sealA l, a.Fits n := by
  intro a ha
  simp only [sealA, List.mem_cons, List.not_mem_nil, or_false] at ha
  rcases ha with rfl | rfl | rfl
  · trivial
  · exact ⟨hn, headP_size hl⟩
  · trivial
theorem install_fits (hg : l.Good m) : ∀ a ∈ installA l, a.Fits (32 + m) := by
  intro a ha
  rcases List.mem_append.1 ha with ha | ha
  · obtain ⟨x, hx, rfl⟩ := List.mem_map.1 ha
    exact ⟨by have := hg.lt x hx; omega, hg.size x hx⟩
  · exact head_fits (by omega) [] (by simp) a ha
theorem commit_fits (hg : l.Good m) : ∀ a ∈ commitA l, a.Fits (32 + m) := by
  intro a ha
  rcases List.mem_append.1 ha with ha | ha
  · obtain ⟨p, hp, rfl⟩ := List.mem_map.1 ha
    have h2 := List.mem_zipIdx hp
    have := hg.len
    exact ⟨by omega, hg.size _ (by rw [h2.2.2]; exact List.getElem_mem _)⟩
  · rcases List.mem_append.1 ha with ha | ha
    · exact head_fits (by omega) _ (by simp; exact hg.len) a ha
    · exact install_fits hg a ha

/-- With the power for all of it. -/
theorem Calm.commits (h : Calm m H D) (hg : l.Good m) (hp : D.left (2 * l.length + 6)) (hp1 : -1 ≤ D.power) : D.actsE (commitA l) = 0 ∧ Calm m (over H l) (D.acts (commitA l)) ∧ (D.power = -1 → (D.acts (commitA l)).power = -1) := by
  have hsw : D.sw = ⟨D.safe, []⟩ := by unfold DSt.sw; rw [h.wait]
  have hst := h.st
  rw [hsw] at hst
  obtain ⟨_, h2, h3⟩ := commit_along hg rfl h.len hst
  rcases acts_run h.off (l := commitA l) (fun a ha => by rw [h.len]; exact commit_fits hg a ha) hp1 with ⟨_, k1, k2, k3, k4⟩ | ⟨k0, _⟩
  · rw [hsw] at k3
    refine ⟨k1, ⟨?_, by rw [k3]; exact h2, by have := congrArg Sw.wait k3; exact this.trans h3, k2⟩, fun hp => by rw [k4, if_pos hp]⟩
    have := congrArg (fun x => x.safe.length) k3
    simp only [DSt.sw] at this
    rw [this, run_safe, h.len]
  · rw [commit_len] at k0
    exact absurd hp k0
/-- With too little. -/
theorem Calm.cut (h : Calm m H D) (hg : l.Good m) (hp : ¬ D.left (2 * l.length + 6)) (hp1 : -1 ≤ D.power) : D.actsE (commitA l) = 7 ∧ Good m H l (D.acts (commitA l)).sw ∧ (D.acts (commitA l)).safe.length = 32 + m := by
  have hsw : D.sw = ⟨D.safe, []⟩ := by unfold DSt.sw; rw [h.wait]
  have hst := h.st
  rw [hsw] at hst
  obtain ⟨h1, _, _⟩ := commit_along hg rfl h.len hst
  rcases acts_run h.off (l := commitA l) (fun a ha => by rw [h.len]; exact commit_fits hg a ha) hp1 with ⟨k0, _⟩ | ⟨_, k1, _, k, _, k2⟩
  · rw [commit_len] at k0
    exact absurd k0 hp
  · rw [hsw] at k2
    refine ⟨k1, by rw [k2]; exact h1.take k, ?_⟩
    have := congrArg (fun x => x.safe.length) k2
    simp only [DSt.sw] at this
    rw [this, run_safe, h.len]

/-- Behind a crash, whatever is kept. -/
structure Found (m : Nat) (H : Nat → ByteArray) (l : Stg) (D : DSt) : Prop where
  len : D.safe.length = 32 + m
  good : Good m H l D.sw
theorem Found.crash (h : Found m H l D) (hg : l.Good m) (k : Nat) : Rest m H l (D.crash k).sw ∧ (D.crash k).safe.length = 32 + m ∧ (D.crash k).off = false ∧ (D.crash k).power = -1 := by
  refine ⟨h.good.crash hg (w := kept k D.wait) (fun y hy => kept_sub hy), ?_, rfl, rfl⟩
  show (puts _ _).length = _
  rw [puts_length, h.len]
theorem held_of (hh : Held l D.safe) (hw : D.wait = []) : D.held (keys l) = l := by
  apply List.ext_getElem?
  intro k
  unfold DSt.held
  rw [List.getElem?_map, List.getElem?_zipIdx]
  unfold keys
  rw [List.getElem?_map]
  cases hk : l[k]? with
  | none => rfl
  | some p =>
    have := sec_of hw (hh k p hk)
    simp only [Option.map_some]
    rw [show 2 + (0 + k) = 2 + k by omega, this]
theorem keys_nil {l : Stg} (h : keys l = []) : l = [] := by cases l with | nil => rfl | cons x l => cases h
/-- Open, with any power, at what a crash left. -/
theorem Found.opens (hg : l.Good m) (hm : m ≤ 512) (hr : Rest m H l D.sw) (hlen : D.safe.length = 32 + m) (ho : D.off = false) (hp : -1 ≤ D.power) : Found m H l D.opened ∧ D.opened.wait.length ≤ 33 := by
  obtain ⟨hw, hc⟩ := hr
  have hw : D.wait = [] := hw
  have same : ∀ h : Good m H l D.sw, D.opened = D → Found m H l D.opened ∧ D.opened.wait.length ≤ 33 := fun h e => by
    rw [e]; exact ⟨⟨hlen, h⟩, by rw [hw]; simp⟩
  rcases hc with h | h | h
  · exact same (.inl h) (open_empty ho hw h.head).2
  · by_cases hl : keys l = []
    · have h1 := h.head
      rw [hl] at h1
      exact same (.inr (.inr (.inl h))) (open_empty ho hw h1).2
    · obtain ⟨h1, h2⟩ := read_of ho hw h.head
      have hP : homesP (D.readS 1) ((D.safe.length : Int) - 32) = some (keys l) := by
        rw [show D.readS 1 = headP (keys l) from h1]
        refine homesP_head (by unfold keys; simp; exact hg.len) ?_ ?_ ?_
        · unfold Rises keys
          rw [List.pairwise_map]; exact hg.ok
        · intro j hj
          obtain ⟨x, hx, rfl⟩ := List.mem_map.1 hj
          have := hg.lt x hx; omega
        · intro j hj
          obtain ⟨x, hx, rfl⟩ := List.mem_map.1 hj
          have := hg.lt x hx; omega
      obtain ⟨_, e2⟩ := open_some h2 hP
      rw [if_neg hl, held_of h.held hw] at e2
      have hsw : D.sw = ⟨D.safe, []⟩ := by unfold DSt.sw; rw [hw]
      rw [hsw] at h
      obtain ⟨a1, a2, a3⟩ := install_along hg rfl hlen h
      have hwait := acts_wait (installA l) D
      have hil : (installA l).length ≤ 33 := by unfold installA sealA; simp; exact hg.len
      rw [e2]
      refine ⟨?_, by rw [hw] at hwait; simp at hwait; omega⟩
      rcases acts_run ho (l := installA l) (fun a ha => by rw [hlen]; exact install_fits hg a ha) hp with ⟨_, _, _, k3, _⟩ | ⟨_, _, _, k, _, k3⟩
      · rw [hsw] at k3
        refine ⟨?_, by rw [k3]; exact .inr (.inr (.inr (.inr a2)))⟩
        have := congrArg (fun x => x.safe.length) k3
        simp only [DSt.sw] at this
        rw [this, run_safe, hlen]
      · rw [hsw] at k3
        refine ⟨?_, by rw [k3]; exact a1.take k⟩
        have := congrArg (fun x => x.safe.length) k3
        simp only [DSt.sw] at this
        rw [this, run_safe, hlen]
  · exact same (.inr (.inr (.inr (.inr h)))) (open_empty ho hw h.head).2
/-- Open with power without bound. -/
theorem Found.opens_whole (hg : l.Good m) (hm : m ≤ 512) (hr : Rest m H l D.sw) (hlen : D.safe.length = 32 + m) (ho : D.off = false) (hp : D.power = -1) : D.openE = 0 ∧ (Calm m H D.opened ∨ Calm m (over H l) D.opened) := by
  obtain ⟨hw, hc⟩ := hr
  have hw : D.wait = [] := hw
  rcases hc with h | h | h
  · obtain ⟨e1, e2⟩ := open_empty ho hw h.head
    rw [e2]
    exact ⟨e1, .inl ⟨hlen, h, hw, ho⟩⟩
  · by_cases hl : keys l = []
    · have h1 := h.head
      rw [hl] at h1
      obtain ⟨e1, e2⟩ := open_empty ho hw h1
      rw [e2]
      obtain rfl := keys_nil hl
      refine ⟨e1, .inl ⟨hlen, ⟨h1, fun j hj => ?_, fun y hy => ?_⟩, hw, ho⟩⟩
      · rcases h.home j hj with h | ⟨s, h, _⟩
        · exact h
        · cases h
      · have hy : y ∈ D.wait := hy
        rw [hw] at hy; cases hy
    · obtain ⟨h1, h2⟩ := read_of ho hw h.head
      have hP : homesP (D.readS 1) ((D.safe.length : Int) - 32) = some (keys l) := by
        rw [show D.readS 1 = headP (keys l) from h1]
        refine homesP_head (by unfold keys; simp; exact hg.len) ?_ ?_ ?_
        · unfold Rises keys
          rw [List.pairwise_map]; exact hg.ok
        · intro j hj
          obtain ⟨x, hx, rfl⟩ := List.mem_map.1 hj
          have := hg.lt x hx; omega
        · intro j hj
          obtain ⟨x, hx, rfl⟩ := List.mem_map.1 hj
          have := hg.lt x hx; omega
      obtain ⟨e1, e2⟩ := open_some h2 hP
      rw [if_neg hl, held_of h.held hw] at e1 e2
      have hsw : D.sw = ⟨D.safe, []⟩ := by unfold DSt.sw; rw [hw]
      rw [hsw] at h
      obtain ⟨_, a2, a3⟩ := install_along hg rfl hlen h
      rcases acts_run ho (l := installA l) (fun a ha => by rw [hlen]; exact install_fits hg a ha) (by omega) with ⟨_, k1, k2, k3, _⟩ | ⟨k0, _⟩
      · rw [hsw] at k3
        rw [e1, e2]
        refine ⟨k1, .inr ⟨?_, by rw [k3]; exact a2, (congrArg Sw.wait k3).trans a3, k2⟩⟩
        have := congrArg (fun x => x.safe.length) k3
        simp only [DSt.sw] at this
        rw [this, run_safe, hlen]
      · exact absurd (.inl hp) k0
  · obtain ⟨e1, e2⟩ := open_empty ho hw h.head
    rw [e2]
    exact ⟨e1, .inr ⟨hlen, h, hw, ho⟩⟩
/-- Where nothing was under way, a crash and an opening change nothing. -/
theorem Calm.crash (h : Calm m H D) (k : Nat) : Calm m H (D.crash k) := by
  have hs : (D.crash k).safe = D.safe := by
    show puts D.safe (kept k D.wait) = _
    rw [h.wait]; rfl
  have hsw : (D.crash k).sw = D.sw := by
    show Sw.mk (D.crash k).safe [] = Sw.mk D.safe D.wait
    rw [hs, h.wait]
  exact ⟨by rw [hs, h.len], by rw [hsw]; exact h.st, rfl, rfl⟩
end
end Go.Proofs.YtfldhmeenbdkiaaGreatDoor

namespace Go.Proofs.YtfldhmeenbdkiaaGreatDoor
open Go.RowKit

/-- A transaction of a row of them. -/
structure TxV where
  a1 : Option Addr
  c1 : Nat
  a2 : Option Addr
  c2 : Nat
  t : TxD
def cellsT (x : TxV) : List Value := [.slice x.a1 x.t.I.length x.c1, .slice x.a2 x.t.S.length x.c2]
structure TxsAt (w : World) (a : Option Addr) (c : Nat) (l : List TxV) : Prop where
  row : Srcs w (.slice a l.length c) l.length 2 (l.flatMap cellsT)
  each : ∀ x ∈ l, TxAt w x.a1 x.a2 x.c1 x.c2 x.t
def u64s (l : List Nat) : List Value := l.map fun k => .int .u64 (k : Nat)


def mapH (m : Nat) (H : Nat → ByteArray) : List ByteArray := (List.range m).map H
theorem mapH_length (m : Nat) (H : Nat → ByteArray) : (mapH m H).length = m := by simp [mapH]
/-- Nothing staged, power without bound. -/
structure Idle (m : Nat) (H : Nat → ByteArray) (L : LSt) : Prop where
  calm : Calm m H L.D
  stg : L.stg = []
  dead : L.dead = false
  power : L.D.power = -1
theorem over_nil (H : Nat → ByteArray) : over H [] = H := by funext j; rfl
theorem Idle.ok {m : Nat} {H : Nat → ByteArray} {L : LSt} (h : Idle m H L) : L.Ok := by unfold LSt.Ok; rw [h.stg]; exact good_nil _
theorem idle_fresh (m : Nat) : Idle m (fun _ => nought) ⟨(DSt.fresh (32 + m)).opened, [], false⟩ := by
  have h := calm_fresh m
  rw [h.opens.2]
  exact ⟨h, rfl, rfl, rfl⟩
section
variable {m : Nat} {H : Nat → ByteArray} {L : LSt}
theorem good_m (hc : Calm m H L.D) (hk : L.Ok) : L.stg.Good m := by
  unfold LSt.Ok at hk
  rw [hc.len, show 32 + m - 32 = m by omega] at hk
  exact hk
/-- A commit with the power for it. -/
theorem commit_goes (hc : Calm m H L.D) (hd : L.dead = false) (hk : L.Ok) (hp : L.stg = [] ∨ L.D.left (2 * L.stg.length + 6)) (hp1 : -1 ≤ L.D.power) :
    L.commitE = 0 ∧ Calm m (over H L.stg) L.commit.D ∧ L.commit.stg = [] ∧ L.commit.dead = false ∧ (L.D.power = -1 → L.commit.D.power = -1) := by
  by_cases hs : L.stg = []
  · have e1 : L.commitE = 0 := by unfold LSt.commitE; rw [if_neg (by simp [hd]), if_pos hs]
    have e2 : L.commit = L := by unfold LSt.commit; rw [if_neg (by simp [hd]), if_pos hs]
    rw [e2, hs, over_nil]
    exact ⟨e1, hc, rfl, hd, fun h => h⟩
  · obtain ⟨k1, k2, k3⟩ := hc.commits (good_m hc hk) (hp.resolve_left hs) hp1
    have e1 : L.commitE = 0 := by unfold LSt.commitE; rw [if_neg (by simp [hd]), if_neg hs]; exact k1
    have e2 : L.commit = ⟨L.D.acts (commitA L.stg), [], false⟩ := by unfold LSt.commit; rw [if_neg (by simp [hd]), if_neg hs, if_pos k1]
    rw [e2]
    exact ⟨e1, k2, rfl, rfl, k3⟩
theorem commit_dies (hc : Calm m H L.D) (hd : L.dead = false) (hk : L.Ok) (hs : L.stg ≠ []) (hp : ¬ L.D.left (2 * L.stg.length + 6)) (hp1 : -1 ≤ L.D.power) :
    L.commitE = 7 ∧ Found m H L.stg L.commit.D ∧ L.commit.dead = true ∧ L.commit.D.wait.length ≤ 70 := by
  obtain ⟨k1, k2, k3⟩ := hc.cut (good_m hc hk) hp hp1
  have e1 : L.commitE = 7 := by unfold LSt.commitE; rw [if_neg (by simp [hd]), if_neg hs]; exact k1
  have e2 : L.commit = ⟨L.D.acts (commitA L.stg), L.stg, true⟩ := by unfold LSt.commit; rw [if_neg (by simp [hd]), if_neg hs, if_neg (by omega)]
  rw [e2]
  refine ⟨e1, ⟨k3, k2⟩, rfl, ?_⟩
  have h1 := acts_wait (commitA L.stg) L.D
  rw [hc.wait, commit_len] at h1
  have h2 := (good_m hc hk).len
  show (L.D.acts (commitA L.stg)).wait.length ≤ 70
  simp at h1
  omega
theorem Idle.next (h : Idle m H L) (l : List (Int × ByteArray)) : (setsL L l).commitE = 0 ∧ Idle m (over H (setsL L l).stg) (setsL L l).commit := by
  obtain ⟨e1, e2⟩ := setsL_D L l
  obtain ⟨k1, k2, k3, k4, k5⟩ := commit_goes (L := setsL L l) (by rw [e1]; exact h.calm) (by rw [e2]; exact h.dead) (setsL_good h.ok l) (.inr (.inl (by rw [e1]; exact h.power))) (by rw [e1, h.power]; omega)
  exact ⟨k1, k2, k3, k4, k5 (by rw [e1]; exact h.power)⟩

/-- A step of the loop of LogWhole: R stays, whatever is kept, whatever power there is. -/
structure Stays (R : DSt → Prop) (F : (Nat → ByteArray) → Prop) (m : Nat) : Prop where
  step : ∀ (D : DSt) (k n : Nat), R D → R ((D.crash k).setPower n).opened ∧ ((D.crash k).setPower n).opened.wait.length ≤ 100
  fin : ∀ D, R D → (D.crash 0).openE = 0 ∧ ∃ H', F H' ∧ Calm m H' (D.crash 0).opened
theorem stays_calm : Stays (Calm m H) (· = H) m where
  step D k n h := by
    have h1 := (h.crash k).power n
    rw [h1.opens.2]
    exact ⟨h1, by rw [h1.wait]; simp⟩
  fin D h := by
    have h1 := h.crash 0
    exact ⟨h1.opens.1, _, rfl, by rw [h1.opens.2]; exact h1⟩
theorem stays_found {l : Stg} (hg : l.Good m) (hm : m ≤ 512) : Stays (Found m H l) (fun H' => H' = H ∨ H' = over H l) m where
  step D k n h := by
    obtain ⟨h1, h2, h3, h4⟩ := h.crash hg k
    have := Found.opens (D := (D.crash k).setPower n) hg hm h1 h2 h3 (by show -1 ≤ (if (n : Int) < 0 then -1 else (n : Int)); split <;> omega)
    exact ⟨this.1, by omega⟩
  fin D h := by
    obtain ⟨h1, h2, h3, h4⟩ := h.crash hg 0
    obtain ⟨k1, k2⟩ := Found.opens_whole hg hm h1 h2 h3 h4
    exact ⟨k1, k2.elim (fun h => ⟨_, .inl rfl, h⟩) (fun h => ⟨_, .inr rfl, h⟩)⟩
/-- What LogWhole's last commit leaves. -/
theorem whole_left (h : Idle m H L) (hm : m ≤ 512) (l : List (Int × ByteArray)) (q : Nat) : ∃ (eC : Int) (R : DSt → Prop) (F : (Nat → ByteArray) → Prop),
    (LSt.mk ((setsL L l).D.setPower q) (setsL L l).stg (setsL L l).dead).commitE = eC ∧ (eC = 0 ∨ eC = 7) ∧ Stays R F m ∧ R (LSt.mk ((setsL L l).D.setPower q) (setsL L l).stg (setsL L l).dead).commit.D ∧
    (LSt.mk ((setsL L l).D.setPower q) (setsL L l).stg (setsL L l).dead).commit.D.wait.length ≤ 100 ∧ ∀ H', F H' → H' = over H (setsL L l).stg ∨ (eC = 7 ∧ H' = H) := by
  obtain ⟨e1, e2⟩ := setsL_D L l
  have hk := setsL_good h.ok l
  generalize setsL L l = M at e1 e2 hk
  have hc : Calm m H (M.D.setPower q) := by rw [e1]; exact h.calm.power q
  have hq : -1 ≤ (M.D.setPower q).power := by show -1 ≤ (if (q : Int) < 0 then -1 else (q : Int)); split <;> omega
  have hd : M.dead = false := e2.trans h.dead
  have hk' : (LSt.mk (M.D.setPower q) M.stg M.dead).Ok := hk
  by_cases hs : M.stg = [] ∨ (M.D.setPower q).left (2 * M.stg.length + 6)
  · obtain ⟨k1, k2, _⟩ := commit_goes (L := LSt.mk (M.D.setPower q) M.stg M.dead) hc hd hk' hs hq
    exact ⟨0, _, _, k1, .inl rfl, stays_calm, k2, by rw [k2.wait]; simp, fun H' h => .inl h⟩
  · obtain ⟨k1, k2, _, k3⟩ := commit_dies (L := LSt.mk (M.D.setPower q) M.stg M.dead) hc hd hk' (fun h => hs (.inl h)) (fun h => hs (.inr h)) hq
    exact ⟨7, _, _, k1, .inr rfl, stays_found (good_m (L := LSt.mk (M.D.setPower q) M.stg M.dead) hc hk') hm, k2, by omega, fun H' h => h.elim (fun h => .inr ⟨rfl, h⟩) .inl⟩
end

section
variable {w0 w : World} {b d m : Nat} {L : LSt} {A B : Asr} {H : Nat → ByteArray}
end
end Go.Proofs.YtfldhmeenbdkiaaGreatDoor
