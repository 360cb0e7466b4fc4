/- Both logs side by side; one act. -/
import Derived.Test.YtchilnjocnkodaaGreatRlI
import Derived.Test.YtchilnjocnkodaaGreatSafe
namespace Go.Proofs.YtchilnjocnkodaaGreat
open Go.RowKit

abbrev tAct7 : Nat := 38
def cellsA (a : ActD) : List Value := [.int .i64 a.kind, .int .i64 a.i, .string a.s, .int .u64 a.keep]
def flatA (l : List ActD) : List Value := l.flatMap cellsA
def ActsOk (l : List ActD) : Prop := ∀ a ∈ l, a.keep < 18446744073709551616 ∧ a.s.size ≤ 140737488351232
theorem flatA_get {l : List ActD} {k : Nat} {a : ActD} (h : l[k]? = some a) (j : Nat) (hj : j < 4) : (flatA l)[k * 4 + j]? = (cellsA a)[j]? := by
  induction l generalizing k with
  | nil => simp at h
  | cons y l ih =>
    unfold flatA
    rw [List.flatMap_cons]
    cases k with
    | zero =>
      simp at h; subst h
      rw [List.getElem?_append_left (by simp [cellsA]; omega)]
      simp
    | succ k =>
      rw [List.getElem?_append_right (by simp [cellsA]; omega)]
      have := ih (k := k) (by simpa using h)
      unfold flatA at this
      rw [← this]
      congr 1
      simp [cellsA]; omega

def doesStep (L : LSt) (a : ActD) : LSt := if a.kind = 2 then L.set a.i (secOf a.s) else if a.kind = 3 then L.commit else if a.kind = 4 then L.abort else if a.kind = 7 then L.set a.i a.s else L

/-- Both logs, each with its disk, and what else there is. -/
abbrev MV (S0 : Nat → Prop) (w0 : World) (b d rb rd : Nat) (L M : LSt) (B : Asr) (w : World) : Prop := LV S0 w0 b d L (Star (rlA rb rd M.stg M.dead) (Star (dskA kR rd M.D) B)) w
section
variable {S0 : Nat → Prop} {w0 w : World} {b d rb rd : Nat} {L M : LSt} {A B C E R X : Asr}
theorem pullc {U : Nat → Prop} (h : Star A (Star B (Star C R)) w U) : Star C (Star A (Star B R)) w U := star_flip (star_right h fun _ h => star_flip h)
theorem MV.ref (h : MV S0 w0 b d rb rd L M B w) : RV S0 w0 rb rd M (Star (lgA b d L.stg L.dead) (Star (dskA kD d L.D) B)) w :=
  h.map fun _ h => star_right (pullc h) fun _ h => pullc h
theorem MV.back (h : RV S0 w0 rb rd M (Star (lgA b d L.stg L.dead) (Star (dskA kD d L.D) B)) w) : MV S0 w0 b d rb rd L M B w :=
  h.map fun _ h => star_right (pullc h) fun _ h => pullc h
theorem deep {U : Nat → Prop} (h : Star X (Star A (Star B (Star C (Star E R)))) w U) : Star A (Star B (Star C (Star E (Star X R)))) w U :=
  star_right (star_flip h) fun _ h => star_right (star_flip h) fun _ h => star_right (star_flip h) fun _ h => star_flip h
theorem MV.locB (hB : Loc B) : Loc (Star (rlA rb rd M.stg M.dead) (Star (dskA kR rd M.D) B)) := loc_star (loc_rl _ _ _ _) (loc_star (loc_dsk _ _ _) hB)
theorem MV.locR (hB : Loc B) : Loc (Star (lgA b d L.stg L.dead) (Star (dskA kD d L.D) B)) := loc_star (loc_lg _ _ _ _) (loc_star (loc_dsk _ _ _) hB)
theorem mv_act {g : Nat} {a : ActD} (h : MV S0 w0 b d rb rd L M (Star (blkA g tAct7 (cellsA a)) B) w) : w.cell? ⟨g, 0, none⟩ = some (.int .i64 a.kind) ∧ w.cell? ⟨g, 1, none⟩ = some (.int .i64 a.i) ∧ w.cell? ⟨g, 2, none⟩ = some (.string a.s) ∧ w.cell? ⟨g, 3, none⟩ = some (.int .u64 a.keep) := by
  obtain ⟨_, ⟨_, _, _, ⟨_, _, _, ⟨_, _, _, ⟨_, _, _, ⟨_, _, h, _⟩, _⟩, _⟩, _⟩, _⟩, _⟩ := h
  exact ⟨h.1.cell (j := 0) rfl, h.1.cell (j := 1) rfl, h.1.cell (j := 2) rfl, h.1.cell (j := 3) rfl⟩
theorem Stg.Good.mono {m n : Nat} {l : Stg} (h : l.Good m) (hm : m ≤ n) : l.Good n := ⟨h.ok, h.len, fun x hx => Nat.lt_of_lt_of_le (h.lt x hx) hm, h.size⟩

/-- Each call, of both. -/
theorem mv_get (h : MV S0 w0 b d rb rd L M B w) (hB : Loc B) (hw : L.D.wait.length * 24 ≤ 140737488355328) (i : Int) :
    Calls Tryz.prog 24 #[.pointer (some ⟨b, 0, none⟩), .int .i64 i] w fun e w' => e = .returned (.tuple #[.string (L.getS i), .int .i64 (L.getE i)]) ∧ MV S0 w0 b d rb rd L M B w' := lv_get h (MV.locB hB) hw i
theorem mv_rget (h : MV S0 w0 b d rb rd L M B w) (hB : Loc B) (hk : M.stg.Good 512) (hw : M.D.wait.length * 24 ≤ 140737488355328) (i : Int) :
    Calls Tryz.prog 36 #[.pointer (some ⟨rb, 0, none⟩), .int .i64 i] w fun e w' => e = .returned (.tuple #[.string (M.getS i), .int .i64 (M.getE i)]) ∧ MV S0 w0 b d rb rd L M B w' :=
  (rget_calls (MV.ref h) (MV.locR hB) hk hw i).mono fun _ _ ⟨h1, h2⟩ => ⟨h1, MV.back h2⟩
theorem mv_set (h : MV S0 w0 b d rb rd L M B w) (hB : Loc B) (hk : L.Ok) (i : Int) (s : ByteArray) :
    Calls Tryz.prog 21 #[.pointer (some ⟨b, 0, none⟩), .int .i64 i, .string s] w fun e w' => e = .returned (.int .i64 (L.setE i s)) ∧ MV S0 w0 b d rb rd (L.set i s) M B w' := lv_set h (MV.locB hB) hk i s
theorem mv_rset (h : MV S0 w0 b d rb rd L M B w) (hB : Loc B) (hk : M.stg.Good 512) (i : Int) (s : ByteArray) :
    Calls Tryz.prog 37 #[.pointer (some ⟨rb, 0, none⟩), .int .i64 i, .string s] w fun e w' => e = .returned (.int .i64 (M.setE i s)) ∧ MV S0 w0 b d rb rd L (M.set i s) B w' := by
  obtain ⟨e1, e2⟩ := set_D M i s
  refine (rset_calls (MV.ref h) (MV.locR hB) hk i s).mono fun _ _ ⟨h1, h2⟩ => ⟨h1, ?_⟩
  exact MV.back h2
theorem mv_commit (h : MV S0 w0 b d rb rd L M B w) (hB : Loc B) (hk : L.Ok) (hw : (L.D.wait.length + 70) * 24 ≤ 140737488355328) :
    Calls Tryz.prog 23 #[.pointer (some ⟨b, 0, none⟩)] w fun e w' => e = .returned (.int .i64 L.commitE) ∧ MV S0 w0 b d rb rd L.commit M B w' := lv_commit h (MV.locB hB) hk hw
theorem mv_rcommit (h : MV S0 w0 b d rb rd L M B w) (hB : Loc B) (hk : M.stg.Good 512) (hw : (M.D.wait.length + 70) * 24 ≤ 140737488355328) :
    Calls Tryz.prog 38 #[.pointer (some ⟨rb, 0, none⟩)] w fun e w' => e = .returned (.int .i64 M.commitE) ∧ MV S0 w0 b d rb rd L M.commit B w' :=
  (rcommit_calls (MV.ref h) (MV.locR hB) hk hw).mono fun _ _ ⟨h1, h2⟩ => ⟨h1, MV.back h2⟩
theorem mv_abort (h : MV S0 w0 b d rb rd L M B w) (hB : Loc B) :
    Calls Tryz.prog 39 #[.pointer (some ⟨b, 0, none⟩)] w fun e w' => e = .returned (.tuple #[]) ∧ MV S0 w0 b d rb rd L.abort M B w' := lv_abort h (MV.locB hB)
theorem mv_rabort (h : MV S0 w0 b d rb rd L M B w) (hB : Loc B) :
    Calls Tryz.prog 40 #[.pointer (some ⟨rb, 0, none⟩)] w fun e w' => e = .returned (.tuple #[]) ∧ MV S0 w0 b d rb rd L M.abort B w' :=
  (rabort_calls (MV.ref h) (MV.locR hB)).mono fun _ _ ⟨h1, h2⟩ => ⟨h1, MV.back h2⟩

def actV7 (a : ActD) : Value := .agg #[.int .i64 a.kind, .int .i64 a.i, .string a.s, .int .u64 a.keep]
set_option maxRecDepth 100000 in
set_option maxHeartbeats 8000000 in
theorem does_calls (a : ActD) (hL : MV S0 w0 b d rb rd L L B w) (hB : Loc B) (hk : L.Ok) (hlen : L.D.safe.length ≤ 544) (ha : a.s.size ≤ 140737488351232) (hw : L.D.wait.length ≤ 70) :
    Calls Tryz.prog 12 #[.pointer (some ⟨b, 0, none⟩), .pointer (some ⟨rb, 0, none⟩), actV7 a] w fun e w' => e = .returned (.bool true) ∧ MV S0 w0 b d rb rd (doesStep L a) (doesStep L a) B w' := by
  have HK := Lib.hid hk
  have hk5 : L.stg.Good 512 := Stg.Good.mono hk (by omega)
  have HK5 := Lib.hid hk5
  have HA := Lib.hid ha
  have HW := Lib.hid (show (L.D.wait.length + 70) * 24 ≤ 140737488355328 by omega)
  have HW2 := Lib.hid (show L.D.wait.length * 24 ≤ 140737488355328 by omega)
  have hX : ∀ g, Loc (Star (blkA g tAct7 (cellsA a)) B) := fun g => loc_star (loc_blk _ _ _) hB
  have hMl : ∀ (g : Nat) (L M : LSt), Loc (Star (lgA b d L.stg L.dead) (Star (dskA kD d L.D) (Star (rlA rb rd M.stg M.dead) (Star (dskA kR rd M.D) (Star (blkA g tAct7 (cellsA a)) B))))) := fun g L M => LV.loc (MV.locB (hX g))
  have L1 : MV S0 w0 b d rb rd L L (Star (blkA w.heap.size tAct7 (cellsA a)) B) (w.alloc (.cells (cellsA a).toArray tAct7)) := (Lv.box hL (LV.loc (MV.locB hB)) tAct7 (cellsA a)).map fun _ h => deep h
  have fin : ∀ (L' : LSt) (w' : World), MV S0 w0 b d rb rd L' L' (Star (blkA w.heap.size tAct7 (cellsA a)) B) w' → MV S0 w0 b d rb rd L' L' B w' := fun L' w' h => h.map fun _ h => star_right h fun _ h => star_right h fun _ h => star_right h fun _ h => star_less h
  have FIN := Lib.hid fin
  obtain ⟨p0, p1, p2, p3⟩ := mv_act L1
  clear hk hk5 ha hL fin hw
  unfold actV7
  by_cases k1 : a.kind = 1
  · have hs : doesStep L a = L := by unfold doesStep; simp [k1]
    rw [hs]
    have t1 : (a.kind == 1) = true := by rw [beq_iff_eq]; exact k1
    obtain ⟨gS, hgS⟩ : ∃ s, s = L.getS a.i := ⟨_, rfl⟩
    obtain ⟨gE, hgE⟩ : ∃ s, s = L.getE a.i := ⟨_, rfl⟩
    have HGS := Lib.hid hgS
    have HGE := Lib.hid hgE
    have b1 : (gS.toList == gS.toList) = true := by simp
    have b2 : (gE == gE) = true := by simp
    clear hs k1 hgS hgE
    go_enter Tryz.func12, Tryz.ntmps12
    go_wp2_with fail
    refine (mv_get L1 (hX _) HW2.out a.i).mono ?_
    rw [← HGS.out, ← HGE.out]
    rintro e w2 ⟨rfl, L2⟩
    obtain ⟨r0, r1, r2, r3⟩ := mv_act L2
    clear L1 p0 p1 p2 p3
    go_wp2_with fail
    refine (mv_rget L2 (hX _) HK5.out HW2.out a.i).mono ?_
    rw [← HGS.out, ← HGE.out]
    rintro e w3 ⟨rfl, L3⟩
    have HF := Lib.hid (FIN.out _ _ L3)
    clear L2 L3 r0 r1 r2 r3
    go_wp2_with fail
    go_ret
    exact ⟨rfl, HF.out⟩
  have t1 : (a.kind == 1) = false := by rw [beq_eq_false_iff_ne]; exact k1
  by_cases k2 : a.kind = 2
  · have hs : doesStep L a = L.set a.i (secOf a.s) := by unfold doesStep; simp [k2]
    rw [hs]
    have t2 : (a.kind == 2) = true := by rw [beq_iff_eq]; exact k2
    obtain ⟨gE, hgE⟩ : ∃ s, s = L.setE a.i (secOf a.s) := ⟨_, rfl⟩
    have HGE := Lib.hid hgE
    have b2 : (gE == gE) = true := by simp
    have L6 := L1.drew (hMl _ _ _)
    clear hs k1 k2 hgE
    go_enter Tryz.func12, Tryz.ntmps12
    go_wp2_with fail
    go_region_held3 (fun w' => w'.cell? ⟨w.heap.size, 1, none⟩ = some (.int .i64 a.i) ∧ w'.cell? ⟨w.heap.size, 2, none⟩ = some (.string a.s))
      (first | go_keep | exact ⟨c17, c27⟩ | exact ⟨c18, c28⟩)
      (first
        | (go_at_call 22; refine (L6.calls (hMl _ _ _) (sector_calls a.s _ (by have := HA.out; omega))).mono ?_; rintro e w7 ⟨rfl, L7⟩; obtain ⟨_, c17, c27, _⟩ := mv_act (L := L) (M := L) L7)
        | (go_at_call 21; refine (mv_set (L := L) (M := L) L7 (hX _) HK.out a.i (secOf a.s)).mono ?_; rw [← HGE.out]; rintro e w8 ⟨rfl, L8⟩; obtain ⟨c08, c18, c28, _⟩ := mv_act L8))
    clear L1 L6 L7 c17 c27 p0 p1 p2 p3
    have L9 := L8.drew (hMl _ _ _)
    go_wp2_with fail
    go_region_held3 (fun w' => w'.cell? ⟨w.heap.size, 1, none⟩ = some (.int .i64 a.i) ∧ w'.cell? ⟨w.heap.size, 2, none⟩ = some (.string a.s))
      (first | go_keep | exact ⟨c19, c29⟩ | exact ⟨c1t, c2t⟩)
      (first
        | (go_at_call 22; refine (L9.calls (hMl _ _ _) (sector_calls a.s _ (by have := HA.out; omega))).mono ?_; rintro e w10 ⟨rfl, L10⟩; obtain ⟨_, c19, c29, _⟩ := mv_act (L := L.set a.i (secOf a.s)) (M := L) L10)
        | (go_at_call 37; refine (mv_rset (L := L.set a.i (secOf a.s)) (M := L) L10 (hX _) HK5.out a.i (secOf a.s)).mono ?_; rw [← HGE.out]; rintro e w11 ⟨rfl, L11⟩; obtain ⟨_, c1t, c2t, _⟩ := mv_act L11))
    have HF := Lib.hid (FIN.out _ _ L11)
    clear L8 L9 L10 L11 c19 c29 c1t c2t c08 c18 c28
    go_wp2_with fail
    go_ret
    exact ⟨rfl, HF.out⟩
  have t2 : (a.kind == 2) = false := by rw [beq_eq_false_iff_ne]; exact k2
  by_cases k3 : a.kind = 3
  · have hs : doesStep L a = L.commit := by unfold doesStep; simp [k3]
    rw [hs]
    have t3 : (a.kind == 3) = true := by rw [beq_iff_eq]; exact k3
    obtain ⟨gE, hgE⟩ : ∃ s, s = L.commitE := ⟨_, rfl⟩
    have HGE := Lib.hid hgE
    have b2 : (gE == gE) = true := by simp
    clear hs k1 k2 k3 hgE
    go_enter Tryz.func12, Tryz.ntmps12
    go_wp2_with fail
    refine (mv_commit L1 (hX _) HK.out HW.out).mono ?_
    rw [← HGE.out]
    rintro e w2 ⟨rfl, L2⟩
    clear L1 p0 p1 p2 p3
    go_wp2_with fail
    refine (mv_rcommit L2 (hX _) HK5.out HW.out).mono ?_
    rw [← HGE.out]
    rintro e w3 ⟨rfl, L3⟩
    have HF := Lib.hid (FIN.out _ _ L3)
    clear L2 L3
    go_wp2_with fail
    go_ret
    exact ⟨rfl, HF.out⟩
  have t3 : (a.kind == 3) = false := by rw [beq_eq_false_iff_ne]; exact k3
  by_cases k4 : a.kind = 4
  · have hs : doesStep L a = L.abort := by unfold doesStep; simp [k4]
    rw [hs]
    have t4 : (a.kind == 4) = true := by rw [beq_iff_eq]; exact k4
    clear hs k1 k2 k3 k4
    go_enter Tryz.func12, Tryz.ntmps12
    go_wp2_with fail
    refine (mv_abort L1 (hX _)).mono ?_
    rintro e w2 ⟨rfl, L2⟩
    clear L1 p0 p1 p2 p3
    go_wp2_with fail
    refine (mv_rabort L2 (hX _)).mono ?_
    rintro e w3 ⟨rfl, L3⟩
    have HF := Lib.hid (FIN.out _ _ L3)
    clear L2 L3
    go_wp2_with fail
    go_ret
    exact ⟨rfl, HF.out⟩
  have t4 : (a.kind == 4) = false := by rw [beq_eq_false_iff_ne]; exact k4
  by_cases k7 : a.kind = 7
  · have hs : doesStep L a = L.set a.i a.s := by unfold doesStep; simp [k7]
    rw [hs]
    have t7 : (a.kind == 7) = true := by rw [beq_iff_eq]; exact k7
    obtain ⟨gE, hgE⟩ : ∃ s, s = L.setE a.i a.s := ⟨_, rfl⟩
    have HGE := Lib.hid hgE
    have b2 : (gE == gE) = true := by simp
    clear hs k1 k2 k3 k4 k7 hgE
    go_enter Tryz.func12, Tryz.ntmps12
    go_wp2_with fail
    refine (mv_set L1 (hX _) HK.out a.i a.s).mono ?_
    rw [← HGE.out]
    rintro e w2 ⟨rfl, L2⟩
    obtain ⟨r0, r1, r2, r3⟩ := mv_act L2
    clear L1 p0 p1 p2 p3
    go_wp2_with fail
    refine (mv_rset L2 (hX _) HK5.out a.i a.s).mono ?_
    rw [← HGE.out]
    rintro e w3 ⟨rfl, L3⟩
    have HF := Lib.hid (FIN.out _ _ L3)
    clear L2 L3 r0 r1 r2 r3
    go_wp2_with fail
    go_ret
    exact ⟨rfl, HF.out⟩
  have t7 : (a.kind == 7) = false := by rw [beq_eq_false_iff_ne]; exact k7
  have hs : doesStep L a = L := by unfold doesStep; simp [k2, k3, k4, k7]
  rw [hs]
  have HF := Lib.hid (FIN.out _ _ L1)
  clear hs k1 k2 k3 k4 k7 L1
  go_enter Tryz.func12, Tryz.ntmps12
  go_wp2_with fail
  go_ret
  exact ⟨rfl, HF.out⟩
end
end Go.Proofs.YtchilnjocnkodaaGreat
