/- LogGroups' walk. -/
import Derived.Test.YtchilnjocnkodaaLwF
namespace Go.Proofs.Ytchilnjocnkodaa
open Go.RowKit

section
variable {w w0 : World} {A B C D E F R X : Asr} {S0 U : Nat → Prop}
theorem pull3 (h : Star A (Star B (Star C R)) w U) : Star C (Star A (Star B R)) w U := star_flip (star_right h fun _ h => star_flip h)
theorem pull4 (h : Star A (Star B (Star C (Star D R))) w U) : Star D (Star A (Star B (Star C R))) w U := star_flip (star_right h fun _ h => pull3 h)
theorem pull5 (h : Star A (Star B (Star C (Star D (Star E R)))) w U) : Star E (Star A (Star B (Star C (Star D R)))) w U := star_flip (star_right h fun _ h => pull4 h)
theorem pull6 (h : Star A (Star B (Star C (Star D (Star E (Star F R))))) w U) : Star F (Star A (Star B (Star C (Star D (Star E R))))) w U := star_flip (star_right h fun _ h => pull5 h)
theorem push3 (h : Star C (Star A (Star B R)) w U) : Star A (Star B (Star C R)) w U := star_right (star_flip h) fun _ h => star_flip h
theorem push4 (h : Star D (Star A (Star B (Star C R))) w U) : Star A (Star B (Star C (Star D R))) w U := star_right (star_flip h) fun _ h => push3 h
theorem push5 (h : Star E (Star A (Star B (Star C (Star D R)))) w U) : Star A (Star B (Star C (Star D (Star E R)))) w U := star_right (star_flip h) fun _ h => push4 h
theorem push6 (h : Star F (Star A (Star B (Star C (Star D (Star E R))))) w U) : Star A (Star B (Star C (Star D (Star E (Star F R))))) w U := star_right (star_flip h) fun _ h => push5 h
/-- The other log's turn. -/
theorem LV.other {b d b' d' : Nat} {L L' : LSt} (h : LV S0 w0 b d L (Star (lgA b' d' L'.stg L'.dead) (Star (dskA kD d' L'.D) X)) w) : LV S0 w0 b' d' L' (Star (lgA b d L.stg L.dead) (Star (dskA kD d L.D) X)) w :=
  h.map fun _ h => star_right (pull3 h) fun _ h => pull3 h
end

/-- The first fourteen. -/
def TxD.cut (t : TxD) : TxD := ⟨t.I.take 14, t.S⟩
theorem TxAt.cut {w : World} {a1 a2 : Option Addr} {c1 c2 : Nat} {t : TxD} (h : TxAt w a1 a2 c1 c2 t) : TxAt w a1 a2 c1 c2 t.cut where
  I := by
    obtain ⟨h1, h2, h3⟩ := h.I
    refine ⟨by simp [i64s, TxD.cut], fun u hu => h2 u (by
      simp only [TxD.cut, i64s, List.map_take] at hu
      exact List.mem_of_mem_take hu), ?_⟩
    rcases h3 with ⟨e, h0⟩ | ⟨ad, c, e, hc⟩
    · left
      simp only [Value.slice.injEq] at e
      obtain ⟨rfl, e1, rfl⟩ := e
      have : t.cut.I.length = 0 := by simp [TxD.cut, e1]
      exact ⟨by rw [this], this⟩
    · right
      simp only [Value.slice.injEq] at e
      obtain ⟨rfl, _, rfl⟩ := e
      refine ⟨ad, c1, rfl, fun j u hj => hc j u ?_⟩
      simp only [TxD.cut, i64s, List.map_take] at hj
      have hlt : j < 14 := by have := (List.getElem?_eq_some_iff.1 hj).1; rw [List.length_take] at this; omega
      rw [List.getElem?_take_of_lt hlt] at hj
      exact hj
  S := h.S
  text := h.text
  lenI := by have := h.lenI; simp [TxD.cut]; omega
  lenS := h.lenS
  capI := by have := h.capI; simp [TxD.cut]; omega

/-- What sets do to the home sectors as they are read. -/
def wr1 (m : Nat) (H : Nat → ByteArray) (p : Int × ByteArray) : Nat → ByteArray := if 0 ≤ p.1 ∧ p.1 < m then fun j => if j = p.1.toNat then secOf p.2 else H j else H
def wrs (m : Nat) (H : Nat → ByteArray) (l : List (Int × ByteArray)) : Nat → ByteArray := l.foldl (wr1 m) H
theorem rise_len {l : Stg} (ho : l.Ok) {a m : Nat} (h1 : ∀ x ∈ l, a ≤ x.1) (h2 : ∀ x ∈ l, x.1 < m) : l.length ≤ m - a := by
  induction l generalizing a with
  | nil => simp
  | cons y l ih =>
    have hp := List.pairwise_cons.1 ho
    have hy1 := h1 y (by simp)
    have hy2 := h2 y (by simp)
    have := ih (a := y.1 + 1) hp.2 (fun x hx => hp.1 x hx) (fun x hx => h2 x (by simp [hx]))
    rw [List.length_cons]
    omega
section
variable {m : Nat} {H : Nat → ByteArray} {L : LSt}
theorem over_set (hc : Calm m H L.D) (hd : L.dead = false) (hk : L.Ok) (hm : m < 30) (p : Int × ByteArray) : over H (L.set p.1 (secOf p.2)).stg = wr1 m (over H L.stg) p := by
  have hg := good_m hc hk
  unfold wr1
  by_cases hp : 0 ≤ p.1 ∧ p.1 < m
  · rw [if_pos hp]
    have hmay : L.mayE p.1 = 0 := by
      unfold LSt.mayE
      rw [if_neg (by simp [hd]), if_neg]
      rw [hc.len]; omega
    have hE : L.setE p.1 (secOf p.2) = 0 := by
      unfold LSt.setE
      rw [if_neg (by simp [hmay]), if_neg (by simp [secOf_size]), if_neg]
      rintro ⟨_, h30⟩
      have := rise_len hg.ok (a := 0) (m := m) (fun _ _ => by omega) hg.lt
      omega
    have hset : (L.set p.1 (secOf p.2)).stg = L.stg.put p.1.toNat (secOf p.2) := by
      unfold LSt.set
      rw [if_neg (by simp [hE])]
    rw [hset]
    funext j
    unfold over
    rw [at_put _ hg.ok]
    by_cases hj : j = p.1.toNat
    · rw [if_pos hj, if_pos hj]; rfl
    · rw [if_neg hj, if_neg hj]
  · rw [if_neg hp]
    have hmay : L.mayE p.1 = 1 := by
      unfold LSt.mayE
      rw [if_neg (by simp [hd]), if_pos]
      rw [hc.len]; omega
    have hE : L.setE p.1 (secOf p.2) = 1 := by
      unfold LSt.setE
      rw [if_pos (by omega)]; exact hmay
    have hset : L.set p.1 (secOf p.2) = L := by
      unfold LSt.set
      rw [if_pos (by omega)]
    rw [hset]
theorem over_sets (hc : Calm m H L.D) (hd : L.dead = false) (hk : L.Ok) (hm : m < 30) (l : List (Int × ByteArray)) : over H (setsL L l).stg = wrs m (over H L.stg) l := by
  unfold setsL wrs
  induction l generalizing L with
  | nil => rfl
  | cons p l ih =>
    obtain ⟨e1, e2⟩ := set_D L p.1 (secOf p.2)
    have := ih (L := L.set p.1 (secOf p.2)) (by rw [e1]; exact hc) (e2.trans hd) (set_good hk _ _)
    rw [over_set hc hd hk hm p] at this
    exact this
end

theorem Idle.sets_next {m : Nat} {H : Nat → ByteArray} {L : LSt} (h : Idle m H L) (hm : m < 30) (l : List (Int × ByteArray)) : (setsL L l).commitE = 0 ∧ Idle m (wrs m H l) (setsL L l).commit := by
  obtain ⟨k1, k2⟩ := h.next l
  rw [over_sets h.calm h.dead h.ok hm, h.stg, over_nil] at k2
  exact ⟨k1, k2⟩
theorem setsL_append (L : LSt) (a b : List (Int × ByteArray)) : setsL (setsL L a) b = setsL L (a ++ b) := by unfold setsL; rw [List.foldl_append]
theorem wrs_append (m : Nat) (H : Nat → ByteArray) (a b : List (Int × ByteArray)) : wrs m (wrs m H a) b = wrs m H (a ++ b) := by unfold wrs; rw [List.foldl_append]
theorem idle_homes {w0 w : World} {b d m : Nat} {L : LSt} {B : Asr} {H : Nat → ByteArray} (hL : LV Nob w0 b d L B w) (hB : Loc B) (hI : Idle m H L) :
    Calls Try.prog 15 #[.pointer (some ⟨b, 0, none⟩)] w fun e w' => ∃ ao c, e = .returned (.slice ao m c) ∧ LV Nob w0 b d L (Star (rowA tStr 1 (.slice ao m c) m (strs (mapH m H))) B) w' := by
  have := calm_homes hL hB hI.calm hI.dead
  rw [show over H L.stg = H by rw [hI.stg, over_nil]] at this
  exact this
theorem grp_cells {w wr : World} {b d x y t1 t2 : Nat} {L : LSt} {P Q : Asr} {u0 u1 v0 v1 : Value} (h : LV Nob w b d L (Star P (Star Q (Star (blkA x t1 [u0, u1]) (Star (blkA y t2 [v0, v1]) Emp)))) wr) :
    wr.cell? ⟨x, 0, none⟩ = some u0 ∧ wr.cell? ⟨x, 1, none⟩ = some u1 ∧ wr.cell? ⟨y, 0, none⟩ = some v0 ∧ wr.cell? ⟨y, 1, none⟩ = some v1 := by
  obtain ⟨_, hA, _⟩ := (h.map fun _ h => pull6 h).first
  obtain ⟨_, hB, _⟩ := (h.map fun _ h => pull5 h).first
  exact ⟨hB.cell (j := 0) rfl, hB.cell (j := 1) rfl, hA.cell (j := 0) rfl, hA.cell (j := 1) rfl⟩

set_option maxRecDepth 100000 in
set_option maxHeartbeats 8000000 in
theorem logGroups_calls {a1 a2 b1 b2 : Option Addr} {c1 c2 d1 d2 : Nat} {s t : TxD} {w : World} (hS : TxAt w a1 a2 c1 c2 s) (hT : TxAt w b1 b2 d1 d2 t) :
    Calls Try.prog 4 #[.agg #[.slice a1 s.I.length c1, .slice a2 s.S.length c2], .agg #[.slice b1 t.I.length d1, .slice b2 t.S.length d2]] w fun e w' => e = .returned (.bool true) ∧ Fr Nob w w' := by
  have HS := Lib.hid hS
  have HT := Lib.hid hT
  have L2 := (((Live.start w).box loc_emp tTx [.slice a1 s.I.length c1, .slice a2 s.S.length c2]).box (loc_star (loc_blk _ _ _) loc_emp) tTx [.slice b1 t.I.length d1, .slice b2 t.S.length d2]).lv
  rw [World.size_alloc] at L2
  obtain ⟨sI, hsI⟩ : ∃ n, n = s.I.length := ⟨_, rfl⟩
  obtain ⟨tI, htI⟩ : ∃ n, n = t.I.length := ⟨_, rfl⟩
  have hcs := hS.capI
  have hct := hT.capI
  rw [← hsI] at L2 hcs ⊢
  rw [← htI] at L2 hct ⊢
  have HSI := Lib.hid hsI
  have HTI := Lib.hid htI
  have hlX : Loc (Star (blkA (w.heap.size + 1) tTx [.slice b1 tI d1, .slice b2 t.S.length d2]) (Star (blkA w.heap.size tTx [.slice a1 sI c1, .slice a2 s.S.length c2]) Emp)) := loc_star (loc_blk _ _ _) (loc_star (loc_blk _ _ _) loc_emp)
  clear hS hT hsI htI
  go_enter Try.func4, Try.ntmps4
  go_wp2_with fail
  refine (L2.calls hlX (shown_calls _)).mono ?_
  rintro e w1 ⟨rfl, L3⟩
  clear L2
  go_wp2_with fail
  refine (new_ok 60 w1 (by omega) (by omega)).mono ?_
  rintro e w2 ⟨d, rfl, hd, hf⟩
  have L4 := L3.new (B := dskA kD d (DSt.fresh 60)) hlX hf hd
  have hl4 := loc_star (loc_dsk kD d (DSt.fresh 60)) hlX
  clear L3 hd hf
  go_wp2_with fail
  refine (new_ok 60 w2 (by omega) (by omega)).mono ?_
  rintro e w3 ⟨e2, rfl, hd, hf⟩
  have L5 := L4.new (B := dskA kD e2 (DSt.fresh 60)) hl4 hf hd
  clear L4 hd hf hl4
  have hOp := (calm_fresh 28).opens
  have HOP := Lib.hid hOp
  clear hOp
  go_wp2_with fail
  refine (lv_opens (L5.map fun _ h => star_flip h) (loc_star (loc_dsk _ _ _) hlX) HOP.out.1 (by simp [DSt.fresh])).mono ?_
  rintro e w4 ⟨bg, rfl, L6⟩
  clear L5
  go_wp2_with fail
  refine (lv_opens (L6.map fun _ h => pull3 h) (loc_star (loc_lg _ _ _ _) (loc_star (loc_dsk _ _ _) hlX)) HOP.out.1 (by simp [DSt.fresh])).mono ?_
  rintro e w5 ⟨bh, rfl, L7⟩
  have hI0 := idle_fresh 28
  have hRel : ∃ (H : Nat → ByteArray) (L : LSt), Idle 28 H L ∧ LV Nob w bh e2 L (Star (lgA bg d L.stg L.dead) (Star (dskA kD d L.D) (Star (blkA (w.heap.size + 1) tTx [.slice b1 tI d1, .slice b2 t.S.length d2]) (Star (blkA w.heap.size tTx [.slice a1 sI c1, .slice a2 s.S.length c2]) Emp)))) w5 := ⟨_, _, hI0, L7⟩
  clear L6 L7 hI0 HOP
  obtain ⟨H, L, hI, L8⟩ := hRel
  have HI := Lib.hid hI
  clear hI
  have hs' : ∃ s' : TxD, ((14 < sI ∧ 14 ≤ c1 ∧ s'.I.length = 14) ∨ (sI ≤ 14 ∧ s'.I.length = sI)) ∧ s'.S = s.S ∧ TxAt w a1 a2 c1 c2 s' := by
    by_cases h : 14 < sI
    · refine ⟨s.cut, .inl ⟨h, by omega, ?_⟩, rfl, HS.out.cut⟩
      have := HSI.out
      simp [TxD.cut]; omega
    · exact ⟨s, .inr ⟨by omega, HSI.out.symm⟩, rfl, HS.out⟩
  have ht' : ∃ t' : TxD, ((14 < tI ∧ 14 ≤ d1 ∧ t'.I.length = 14) ∨ (tI ≤ 14 ∧ t'.I.length = tI)) ∧ t'.S = t.S ∧ TxAt w b1 b2 d1 d2 t' := by
    by_cases h : 14 < tI
    · refine ⟨t.cut, .inl ⟨h, by omega, ?_⟩, rfl, HT.out.cut⟩
      have := HTI.out
      simp [TxD.cut]; omega
    · exact ⟨t, .inr ⟨by omega, HTI.out.symm⟩, rfl, HT.out⟩
  obtain ⟨s', hs1, hs2, hs3⟩ := hs'
  obtain ⟨t', ht1, ht2, ht3⟩ := ht'
  have HS3 := Lib.hid hs3
  have HT3 := Lib.hid ht3
  have HS2 := Lib.hid hs2
  have HT2 := Lib.hid ht2
  have LA := L8.map fun _ h => pull6 h
  have LB := L8.map fun _ h => pull5 h
  obtain ⟨SA, hA, zA⟩ := LA.first
  obtain ⟨SB, hB, zB⟩ := LB.first
  have qa0 := hA.cell (j := 0) rfl
  have qa1 := hA.cell (j := 1) rfl
  have qb0 := hB.cell (j := 0) rfl
  have qb1 := hB.cell (j := 1) rfl
  have fa0 := hA.free 0
  have fb0 := hB.free 0
  have hl7 : ∀ v2 w2, Loc (Star (blkA (w.heap.size + 1) tTx v2) (Star (blkA w.heap.size tTx w2) Emp)) := fun _ _ => loc_star (loc_blk _ _ _) (loc_star (loc_blk _ _ _) loc_emp)
  have TA : ∀ (wr : World) (L L2 : LSt) (v2 : List Value) (x : Value), LV Nob w bh e2 L (Star (lgA bg d L2.stg L2.dead) (Star (dskA kD d L2.D) (Star (blkA (w.heap.size + 1) tTx v2) (Star (blkA w.heap.size tTx [.slice a1 sI c1, .slice a2 s.S.length c2]) Emp)))) wr →
      LV Nob w bh e2 L (Star (lgA bg d L2.stg L2.dead) (Star (dskA kD d L2.D) (Star (blkA (w.heap.size + 1) tTx v2) (Star (blkA w.heap.size tTx [x, .slice a2 s.S.length c2]) Emp)))) (wr.setCell ⟨w.heap.size, 0, none⟩ x) := fun wr L L2 v2 x h =>
    ((h.map fun _ h => pull6 h).turn (loc_star (loc_lg _ _ _ _) (loc_star (loc_dsk _ _ _) (loc_star (loc_lg _ _ _ _) (loc_star (loc_dsk _ _ _) (loc_star (loc_blk _ _ _) loc_emp))))) (turn_blk 0 x)).map fun _ h => push6 h
  have TB : ∀ (wr : World) (L L2 : LSt) (v2 : List Value) (x : Value), LV Nob w bh e2 L (Star (lgA bg d L2.stg L2.dead) (Star (dskA kD d L2.D) (Star (blkA (w.heap.size + 1) tTx [.slice b1 tI d1, .slice b2 t.S.length d2]) (Star (blkA w.heap.size tTx v2) Emp)))) wr →
      LV Nob w bh e2 L (Star (lgA bg d L2.stg L2.dead) (Star (dskA kD d L2.D) (Star (blkA (w.heap.size + 1) tTx [x, .slice b2 t.S.length d2]) (Star (blkA w.heap.size tTx v2) Emp)))) (wr.setCell ⟨w.heap.size + 1, 0, none⟩ x) := fun wr L L2 v2 x h =>
    ((h.map fun _ h => pull5 h).turn (loc_star (loc_lg _ _ _ _) (loc_star (loc_dsk _ _ _) (loc_star (loc_lg _ _ _ _) (loc_star (loc_dsk _ _ _) (loc_star (loc_blk _ _ _) loc_emp))))) (turn_blk 0 x)).map fun _ h => push5 h
  -- what the world is behind both cuts
  obtain ⟨W6, hW6⟩ : ∃ W6 : World, W6 = (if 14 < tI then (fun wr : World => wr.setCell ⟨w.heap.size + 1, 0, none⟩ (.slice b1 14 d1)) else id) ((if 14 < sI then (fun wr : World => wr.setCell ⟨w.heap.size, 0, none⟩ (.slice a1 14 c1)) else id) w5) := ⟨_, rfl⟩
  have L9 : LV Nob w bh e2 L (Star (lgA bg d L.stg L.dead) (Star (dskA kD d L.D) (Star (blkA (w.heap.size + 1) tTx [.slice b1 t'.I.length d1, .slice b2 t'.S.length d2]) (Star (blkA w.heap.size tTx [.slice a1 s'.I.length c1, .slice a2 s'.S.length c2]) Emp)))) W6 := by
    rw [hW6, HS2.out, HT2.out]
    rcases hs1 with ⟨g1, g2, g3⟩ | ⟨g1, g3⟩
    · rw [if_pos g1, g3]
      have K1 := TA _ _ _ _ (.slice a1 14 c1) L8
      rcases ht1 with ⟨k1, k2, k3⟩ | ⟨k1, k3⟩
      · rw [if_pos k1, k3]
        exact TB _ _ _ _ (.slice b1 14 d1) K1
      · rw [if_neg (show ¬ 14 < tI by omega), k3]
        exact K1
    · rw [if_neg (show ¬ 14 < sI by omega), g3]
      rcases ht1 with ⟨k1, k2, k3⟩ | ⟨k1, k3⟩
      · rw [if_pos k1, k3]
        exact TB _ _ _ _ (.slice b1 14 d1) L8
      · rw [if_neg (show ¬ 14 < tI by omega), k3]
        exact L8
  have HL9 := Lib.hid L9
  have HW6 := Lib.hid hW6
  have hnb : (w.heap.size == w.heap.size + 1) = false := by simp
  clear hs2 ht2 hs3 ht3 HS HT LA LB hA hB TA TB L8 L9 hW6
  rcases hs1 with ⟨g1, g2, g3⟩ | ⟨g1, g3⟩ <;> rcases ht1 with ⟨k1, k2, k3⟩ | ⟨k1, k3⟩
  all_goals
    have hW := HW6.out
    first
      | rw [if_pos g1] at hW
      | rw [if_neg (show ¬ 14 < sI by omega)] at hW
    first
      | rw [if_pos k1] at hW
      | rw [if_neg (show ¬ 14 < tI by omega)] at hW
    try simp only [id_eq] at hW
    have L9 := HL9.out
    rw [hW] at L9
    clear hW
    rw [g3, k3, HS2.out, HT2.out] at L9
    have G3 := Lib.hid g3
    have K3 := Lib.hid k3
    obtain ⟨rb0, rb1, ra0, ra1⟩ := grp_cells L9
    have hn1 := HI.out.sets_next (by omega) (s'.pairs ++ t'.pairs)
    have hn2 := HI.out.sets_next (by omega) s'.pairs
    have hn3 := hn2.2.sets_next (by omega) t'.pairs
    rw [← setsL_append, ← wrs_append] at hn1
    have N1 := Lib.hid hn1
    have N2 := Lib.hid hn2
    have N3 := Lib.hid hn3
    have hBx : ∀ (L' : LSt) (x y : Nat) (v2 w2 : List Value), Loc (Star (lgA x y L'.stg L'.dead) (Star (dskA kD y L'.D) (Star (blkA (w.heap.size + 1) tTx v2) (Star (blkA w.heap.size tTx w2) Emp)))) := fun L' x y v2 w2 => loc_star (loc_lg _ _ _ _) (loc_star (loc_dsk _ _ _) (hl7 _ _))
    have hwa : ∀ (L' : LSt) (l : List (Int × ByteArray)) (K : Nat → ByteArray), Idle 28 K L' → ((setsL L' l).D.wait.length + 70) * 24 ≤ 140737488355328 := fun L' l K h => by
      rw [(setsL_D L' l).1, h.calm.wait]; simp
    have HWA := Lib.hid hwa
    clear hwa
    have L10 := LV.other L9
    clear g3 k3 hn1 hn2 hn3 L9
    go_wp2_with fail
    have C1 := sets_calls HS3.out L10 (hBx _ _ _ _ _) HI.out.ok
    rw [G3.out, HS2.out] at C1
    refine C1.mono ?_
    clear C1
    rintro e w7 ⟨rfl, L11⟩
    obtain ⟨rb0', rb1', ra0', ra1'⟩ := grp_cells L11
    clear L10 rb0 rb1 ra0 ra1
    go_wp2_with fail
    have C1 := sets_calls HT3.out L11 (hBx _ _ _ _ _) (setsL_good HI.out.ok _)
    rw [K3.out, HT2.out] at C1
    refine C1.mono ?_
    clear C1
    rintro e w8 ⟨rfl, L12⟩
    clear L11 rb0' rb1' ra0' ra1'
    go_wp2_with fail
    have C1 := lv_commit L12 (hBx _ _ _ _ _) (setsL_good (setsL_good HI.out.ok _) _) (by rw [setsL_append]; exact HWA.out _ _ _ HI.out)
    rw [N1.out.1] at C1
    refine C1.mono ?_
    clear C1
    rintro e w9 ⟨rfl, L13⟩
    have L14 := LV.other L13
    obtain ⟨rb0, rb1, ra0, ra1⟩ := grp_cells L14
    clear L12 L13
    go_wp2_with fail
    have C1 := sets_calls HS3.out L14 (hBx _ _ _ _ _) HI.out.ok
    rw [G3.out, HS2.out] at C1
    refine C1.mono ?_
    clear C1
    rintro e w10 ⟨rfl, L15⟩
    clear L14 rb0 rb1 ra0 ra1
    go_wp2_with fail
    have C1 := lv_commit L15 (hBx _ _ _ _ _) (setsL_good HI.out.ok _) (HWA.out _ _ _ HI.out)
    rw [N2.out.1] at C1
    refine C1.mono ?_
    clear C1
    rintro e w11 ⟨rfl, L16⟩
    obtain ⟨rb0, rb1, ra0, ra1⟩ := grp_cells L16
    clear L15
    go_wp2_with fail
    have C1 := sets_calls HT3.out L16 (hBx _ _ _ _ _) N2.out.2.ok
    rw [K3.out, HT2.out] at C1
    refine C1.mono ?_
    clear C1
    rintro e w12 ⟨rfl, L17⟩
    clear L16 rb0 rb1 ra0 ra1
    go_wp2_with fail
    have C1 := lv_commit L17 (hBx _ _ _ _ _) (setsL_good N2.out.2.ok _) (HWA.out _ _ _ N2.out.2)
    rw [N3.out.1] at C1
    refine C1.mono ?_
    clear C1
    rintro e w13 ⟨rfl, L18⟩
    have L19 := LV.other L18
    clear L17 L18
    go_wp2_with fail
    refine (idle_homes L19 (hBx _ _ _ _ _) N1.out.2).mono ?_
    rintro e w14 ⟨ao1, k1c, rfl, L20⟩
    have L21 := L20.map fun _ h => star_right (pull4 h) fun _ h => pull4 h
    clear L19
    go_wp2_with fail
    refine (idle_homes L21 (loc_star (loc_lg _ _ _ _) (loc_star (loc_dsk _ _ _) (loc_star (loc_row _ _ _ _ _) (hl7 _ _)))) N3.out.2).mono ?_
    rintro e w15 ⟨ao2, k2c, rfl, L22⟩
    clear L20 L21
    have L22' := L22
    obtain ⟨_, ⟨_, _, _, ⟨_, _, _, ⟨_, _, r1, ⟨_, _, _, ⟨_, _, _, ⟨_, _, r2, _⟩, _⟩, _⟩, _⟩, _⟩, _⟩, _⟩ := L22'
    have HF22 := Lib.hid L22.fr
    clear L22
    go_wp2_with fail
    refine (same_n (mapH_length _ _) (mapH_length _ _) (by decide) r2.1 r1.1).mono ?_
    rw [show decide (mapH 28 (wrs 28 (wrs 28 H s'.pairs) t'.pairs) = mapH 28 (wrs 28 (wrs 28 H s'.pairs) t'.pairs)) = true from decide_eq_true rfl]
    rintro e w16 ⟨rfl, hf16⟩
    clear r1 r2 N1 N2 N3
    go_wp2_with fail
    go_ret
    exact ⟨rfl, HF22.out.trans hf16⟩
end Go.Proofs.Ytchilnjocnkodaa
