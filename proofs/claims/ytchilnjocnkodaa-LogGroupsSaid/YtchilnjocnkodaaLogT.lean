/- What the statements of layer 7 ask, in plain words; rows of transactions. -/
import Derived.Test.YtchilnjocnkodaaLogS
namespace Go.Proofs.Ytchilnjocnkodaa
open Go.RowKit

/-- A transaction of a row of them. -/
structure TxV where
  a1 : Option Addr
  c1 : Nat
  a2 : Option Addr
  c2 : Nat
  t : TxD
def cellsT (x : TxV) : List Value := [.slice x.a1 x.t.I.length x.c1, .slice x.a2 x.t.S.length x.c2]
structure TxsAt (w : World) (a : Option Addr) (c : Nat) (l : List TxV) : Prop where
  row : Srcs w (.slice a l.length c) l.length 2 (l.flatMap cellsT)
  each : ∀ x ∈ l, TxAt w x.a1 x.a2 x.c1 x.c2 x.t
def u64s (l : List Nat) : List Value := l.map fun k => .int .u64 (k : Nat)


def mapH (m : Nat) (H : Nat → ByteArray) : List ByteArray := (List.range m).map H
theorem mapH_length (m : Nat) (H : Nat → ByteArray) : (mapH m H).length = m := by simp [mapH]
/-- Nothing staged, power without bound. -/
structure Idle (m : Nat) (H : Nat → ByteArray) (L : LSt) : Prop where
  calm : Calm m H L.D
  stg : L.stg = []
  dead : L.dead = false
  power : L.D.power = -1
theorem over_nil (H : Nat → ByteArray) : over H [] = H := by funext j; rfl
theorem Idle.ok {m : Nat} {H : Nat → ByteArray} {L : LSt} (h : Idle m H L) : L.Ok := by unfold LSt.Ok; rw [h.stg]; exact good_nil _
theorem idle_fresh (m : Nat) : Idle m (fun _ => nought) ⟨(DSt.fresh (32 + m)).opened, [], false⟩ := by
  have h := calm_fresh m
  rw [h.opens.2]
  exact ⟨h, rfl, rfl, rfl⟩
section
variable {m : Nat} {H : Nat → ByteArray} {L : LSt}
theorem good_m (hc : Calm m H L.D) (hk : L.Ok) : L.stg.Good m := by
  unfold LSt.Ok at hk
  rw [hc.len, show 32 + m - 32 = m by omega] at hk
  exact hk
/-- A commit with the power for it. -/
theorem commit_goes (hc : Calm m H L.D) (hd : L.dead = false) (hk : L.Ok) (hp : L.stg = [] ∨ L.D.left (2 * L.stg.length + 6)) (hp1 : -1 ≤ L.D.power) :
    L.commitE = 0 ∧ Calm m (over H L.stg) L.commit.D ∧ L.commit.stg = [] ∧ L.commit.dead = false ∧ (L.D.power = -1 → L.commit.D.power = -1) := by
  by_cases hs : L.stg = []
  · have e1 : L.commitE = 0 := by unfold LSt.commitE; rw [if_neg (by simp [hd]), if_pos hs]
    have e2 : L.commit = L := by unfold LSt.commit; rw [if_neg (by simp [hd]), if_pos hs]
    rw [e2, hs, over_nil]
    exact ⟨e1, hc, rfl, hd, fun h => h⟩
  · obtain ⟨k1, k2, k3⟩ := hc.commits (good_m hc hk) (hp.resolve_left hs) hp1
    have e1 : L.commitE = 0 := by unfold LSt.commitE; rw [if_neg (by simp [hd]), if_neg hs]; exact k1
    have e2 : L.commit = ⟨L.D.acts (commitA L.stg), [], false⟩ := by unfold LSt.commit; rw [if_neg (by simp [hd]), if_neg hs, if_pos k1]
    rw [e2]
    exact ⟨e1, k2, rfl, rfl, k3⟩
theorem commit_dies (hc : Calm m H L.D) (hd : L.dead = false) (hk : L.Ok) (hs : L.stg ≠ []) (hp : ¬ L.D.left (2 * L.stg.length + 6)) (hp1 : -1 ≤ L.D.power) :
    L.commitE = 7 ∧ Found m H L.stg L.commit.D ∧ L.commit.dead = true ∧ L.commit.D.wait.length ≤ 70 := by
  obtain ⟨k1, k2, k3⟩ := hc.cut (good_m hc hk) hp hp1
  have e1 : L.commitE = 7 := by unfold LSt.commitE; rw [if_neg (by simp [hd]), if_neg hs]; exact k1
  have e2 : L.commit = ⟨L.D.acts (commitA L.stg), L.stg, true⟩ := by unfold LSt.commit; rw [if_neg (by simp [hd]), if_neg hs, if_neg (by omega)]
  rw [e2]
  refine ⟨e1, ⟨k3, k2⟩, rfl, ?_⟩
  have h1 := acts_wait (commitA L.stg) L.D
  rw [hc.wait, commit_len] at h1
  have h2 := (good_m hc hk).len
  show (L.D.acts (commitA L.stg)).wait.length ≤ 70
  simp at h1
  omega
theorem Idle.next (h : Idle m H L) (l : List (Int × ByteArray)) : (setsL L l).commitE = 0 ∧ Idle m (over H (setsL L l).stg) (setsL L l).commit := by
  obtain ⟨e1, e2⟩ := setsL_D L l
  obtain ⟨k1, k2, k3, k4, k5⟩ := commit_goes (L := setsL L l) (by rw [e1]; exact h.calm) (by rw [e2]; exact h.dead) (setsL_good h.ok l) (.inr (.inl (by rw [e1]; exact h.power))) (by rw [e1, h.power]; omega)
  exact ⟨k1, k2, k3, k4, k5 (by rw [e1]; exact h.power)⟩

/-- A step of the loop of LogWhole: R stays, whatever is kept, whatever power there is. -/
structure Stays (R : DSt → Prop) (F : (Nat → ByteArray) → Prop) (m : Nat) : Prop where
  step : ∀ (D : DSt) (k n : Nat), R D → R ((D.crash k).setPower n).opened ∧ ((D.crash k).setPower n).opened.wait.length ≤ 100
  fin : ∀ D, R D → (D.crash 0).openE = 0 ∧ ∃ H', F H' ∧ Calm m H' (D.crash 0).opened
theorem stays_calm : Stays (Calm m H) (· = H) m where
  step D k n h := by
    have h1 := (h.crash k).power n
    rw [h1.opens.2]
    exact ⟨h1, by rw [h1.wait]; simp⟩
  fin D h := by
    have h1 := h.crash 0
    exact ⟨h1.opens.1, _, rfl, by rw [h1.opens.2]; exact h1⟩
theorem stays_found {l : Stg} (hg : l.Good m) (hm : m ≤ 512) : Stays (Found m H l) (fun H' => H' = H ∨ H' = over H l) m where
  step D k n h := by
    obtain ⟨h1, h2, h3, h4⟩ := h.crash hg k
    have := Found.opens (D := (D.crash k).setPower n) hg hm h1 h2 h3 (by show -1 ≤ (if (n : Int) < 0 then -1 else (n : Int)); split <;> omega)
    exact ⟨this.1, by omega⟩
  fin D h := by
    obtain ⟨h1, h2, h3, h4⟩ := h.crash hg 0
    obtain ⟨k1, k2⟩ := Found.opens_whole hg hm h1 h2 h3 h4
    exact ⟨k1, k2.elim (fun h => ⟨_, .inl rfl, h⟩) (fun h => ⟨_, .inr rfl, h⟩)⟩
/-- What LogWhole's last commit leaves. -/
theorem whole_left (h : Idle m H L) (hm : m ≤ 512) (l : List (Int × ByteArray)) (q : Nat) : ∃ (eC : Int) (R : DSt → Prop) (F : (Nat → ByteArray) → Prop),
    (LSt.mk ((setsL L l).D.setPower q) (setsL L l).stg (setsL L l).dead).commitE = eC ∧ (eC = 0 ∨ eC = 7) ∧ Stays R F m ∧ R (LSt.mk ((setsL L l).D.setPower q) (setsL L l).stg (setsL L l).dead).commit.D ∧
    (LSt.mk ((setsL L l).D.setPower q) (setsL L l).stg (setsL L l).dead).commit.D.wait.length ≤ 100 ∧ ∀ H', F H' → H' = over H (setsL L l).stg ∨ (eC = 7 ∧ H' = H) := by
  obtain ⟨e1, e2⟩ := setsL_D L l
  have hk := setsL_good h.ok l
  generalize setsL L l = M at e1 e2 hk
  have hc : Calm m H (M.D.setPower q) := by rw [e1]; exact h.calm.power q
  have hq : -1 ≤ (M.D.setPower q).power := by show -1 ≤ (if (q : Int) < 0 then -1 else (q : Int)); split <;> omega
  have hd : M.dead = false := e2.trans h.dead
  have hk' : (LSt.mk (M.D.setPower q) M.stg M.dead).Ok := hk
  by_cases hs : M.stg = [] ∨ (M.D.setPower q).left (2 * M.stg.length + 6)
  · obtain ⟨k1, k2, _⟩ := commit_goes (L := LSt.mk (M.D.setPower q) M.stg M.dead) hc hd hk' hs hq
    exact ⟨0, _, _, k1, .inl rfl, stays_calm, k2, by rw [k2.wait]; simp, fun H' h => .inl h⟩
  · obtain ⟨k1, k2, _, k3⟩ := commit_dies (L := LSt.mk (M.D.setPower q) M.stg M.dead) hc hd hk' (fun h => hs (.inl h)) (fun h => hs (.inr h)) hq
    exact ⟨7, _, _, k1, .inr rfl, stays_found (good_m (L := LSt.mk (M.D.setPower q) M.stg M.dead) hc hk') hm, k2, by omega, fun H' h => h.elim (fun h => .inr ⟨rfl, h⟩) .inl⟩
end

section
variable {w0 w : World} {b d m : Nat} {L : LSt} {A B : Asr} {H : Nat → ByteArray}
theorem calm_homes (hL : LV Nob w0 b d L B w) (hB : Loc B) (hC : Calm m H L.D) (hd : L.dead = false) :
    Calls Try.prog 15 #[.pointer (some ⟨b, 0, none⟩)] w fun e w' => ∃ ao c, e = .returned (.slice ao m c) ∧ LV Nob w0 b d L (Star (rowA tStr 1 (.slice ao m c) m (strs (mapH m (over H L.stg)))) B) w' := by
  refine (lhomes_calls hL hB (by rw [hC.wait]; simp)).mono ?_
  rintro e w1 ⟨ao, c, he, h⟩
  have e1 : homesL L = mapH m (over H L.stg) := by
    obtain ⟨D, stg, dead⟩ := L
    simp only at hd hC
    subst hd
    unfold homesL
    show homesN _ (D.safe.length - 32) = _
    rw [hC.len, show 32 + m - 32 = m by omega]
    exact hC.homes stg
  rw [e1, mapH_length] at h he
  exact ⟨ao, c, he, h⟩
theorem same_n {a1 a2 : Option Addr} {k1 k2 n : Nat} {l k : List ByteArray} (hl : l.length = n) (hk : k.length = n) (hn : n ≤ 9223372036854775807) (h1 : w.ownsRow 0 tStr 1 (.slice a1 n k1) n (strs l)) (h2 : w.ownsRow 0 tStr 1 (.slice a2 n k2) n (strs k)) :
    Calls Try.prog 18 #[.slice a1 n k1, .slice a2 n k2] w fun e w' => e = .returned (.bool (decide (l = k))) ∧ Fr Nob w w' := by
  subst hl
  exact same_calls hk.symm hn (row_srcs h1 (strs_one _)) (row_srcs h2 (strs_one _))
end
end Go.Proofs.Ytchilnjocnkodaa
