/- The log: commits, Commit. -/
import Derived.Test.YtchilnjocnkodaaGreatKeysM
import Derived.Deep.RegionHeld3
namespace Go.Proofs.YtchilnjocnkodaaGreat
open Go.RowKit

/-- The acts that the log's own sectors are written by, the first k. -/
def stageTo (l : Stg) (k : Nat) : List DAct := (l.take k).zipIdx.map fun p => .write (2 + p.2) p.1.2
theorem stageTo_all (l : Stg) : stageTo l l.length = stageA l := by unfold stageTo stageA; rw [List.take_length]
theorem stageTo_succ {l : Stg} {k : Nat} {x : Nat × ByteArray} (h : l[k]? = some x) : stageTo l (k + 1) = stageTo l k ++ [.write (2 + k) x.2] := by
  have hk : k < l.length := (List.getElem?_eq_some_iff.1 h).1
  unfold stageTo
  rw [List.take_add_one, h]
  simp [List.zipIdx_append, Nat.min_eq_left (Nat.le_of_lt hk)]

/-- Block b is a log of the disk d, mb its map. -/
def lgM (b d mb : Nat) (stg : Stg) (dead : Bool) : Asr := fun w S => Blk w b tLog [.pointer (some ⟨d, 0, none⟩), .map (some mb), .bool dead] ∧ IsMp w mb stg ∧ S b ∧ S mb
theorem loc_lgm (b d mb : Nat) (stg : Stg) (dead : Bool) : Loc (lgM b d mb stg dead) := by
  rintro w w' S T ⟨h1, h2, h3, h4⟩ hf hT
  exact ⟨h1.fr hf (hT _ h3), h2.fr hf (hT _ h4), h3, h4⟩
theorem lv_open {S0 : Nat → Prop} {w0 w : World} {b d : Nat} {stg : Stg} {dead : Bool} {X : Asr} (h : Lv S0 w0 (Star (lgA b d stg dead) X) w) : ∃ mb, Lv S0 w0 (Star (lgM b d mb stg dead) X) w := by
  obtain ⟨U, ⟨S, T, ⟨mb, h1⟩, h2⟩, h3⟩ := h
  exact ⟨mb, U, ⟨S, T, h1, h2⟩, h3⟩
theorem lv_shut {S0 : Nat → Prop} {w0 w : World} {b d mb : Nat} {stg : Stg} {dead : Bool} {X : Asr} (h : Lv S0 w0 (Star (lgM b d mb stg dead) X) w) : Lv S0 w0 (Star (lgA b d stg dead) X) w :=
  h.map fun _ h => star_left h fun _ h => ⟨mb, h⟩

section
variable {S0 : Nat → Prop} {w0 w : World} {b d : Nat} {D : DSt} {B : Asr}

theorem stage_split (l : Stg) (j : Nat) : ∃ t, stageA l = stageTo l j ++ t := by
  refine ⟨((l.drop j).zipIdx (l.take j).length).map fun p => .write (2 + p.2) p.1.2, ?_⟩
  unfold stageA stageTo
  rw [← List.map_append, ← Nat.zero_add (l.take j).length, ← List.zipIdx_append, List.take_append_drop]
theorem acts_wait (xs : List DAct) (D : DSt) : (D.acts xs).wait.length ≤ D.wait.length + xs.length := by
  induction xs generalizing D with
  | nil => exact Nat.le_refl _
  | cons a xs ih =>
    have h1 : (D.act1 a).wait.length ≤ D.wait.length + 1 := by
      cases a with
      | write i s => exact (write_keeps D _ _).2
      | flush => have := (flush_keeps D).2; show D.flush.wait.length ≤ _; omega
    show (if D.actE a = 0 then (D.act1 a).acts xs else D.act1 a).wait.length ≤ _
    rw [List.length_cons]
    split
    · have := ih (D.act1 a); omega
    · omega
theorem stage_wait (D : DSt) (l : Stg) (k : Nat) : (D.acts (stageTo l k)).wait.length ≤ D.wait.length + k := by
  have h := acts_wait (stageTo l k) D
  have hl : (stageTo l k).length ≤ k := by unfold stageTo; simp; omega
  omega

/-- What the walk reads of it. -/
theorem commits_facts {stg : Stg} {m n c mb : Nat} {E : DSt} {ao : Option Addr} {B1 B2 t1 t2 : Nat} {wr : World} {u : Value} (hL : Lv S0 w0 (Star (blkA B2 t2 [u]) (Star (blkA B1 t1 [.pointer (some ⟨b, 0, none⟩)]) (Star (lgM b d mb stg false) (Star (dskA kD d E) (Star (rowA tIntE 1 (.slice ao n c) n (nums (keys stg))) B))))) wr)
    {k : Nat} {x : Nat × ByteArray} (hx : stg[k]? = some x) (hg : stg.Good m) (hm : m ≤ 9223372036854775807) :
    wr.cell? ⟨B1, 0, none⟩ = some (.pointer (some ⟨b, 0, none⟩)) ∧ wr.cell? ⟨b, 0, none⟩ = some (.pointer (some ⟨d, 0, none⟩)) ∧ wr.cell? ⟨b, 1, none⟩ = some (.map (some mb)) ∧
      (Instr.lookup tMap (.map (some mb)) (.int .i64 (x.1 : Int)) false).run Tryz.prog wr = .ok (.string x.2) wr ∧ (∃ S, IsDisk wr d S E) ∧ ∃ g off, ao = some ⟨g, off, none⟩ ∧ wr.cell? ⟨g, off + k, none⟩ = some (.int .i64 (x.1 : Int)) := by
  obtain ⟨U1, ⟨T1, U2, h2, ⟨T2, U3, h3, ⟨T3, U4, ⟨h4, h5, _⟩, ⟨T4, U5, h6, ⟨T5, U6, h7, _⟩, _⟩, _⟩, _⟩, _⟩, _⟩ := hL
  have hmem := List.mem_of_getElem? hx
  have hl := mp_look h5 x.1 (by have := hg.lt x hmem; omega)
  rw [at_of_mem hg.ok hmem] at hl
  refine ⟨h3.1.cell rfl, h4.cell (j := 0) rfl, h4.cell (j := 1) rfl, hl, ⟨_, h6⟩, ?_⟩
  obtain ⟨g, off, e, hc⟩ := (row_srcs h7.1 (nums_one _)).at (j := k) (u := .int .i64 (x.1 : Int)) (by simp [nums, keys, hx])
  exact ⟨g, off, e, hc⟩

set_option maxRecDepth 100000 in
set_option maxHeartbeats 1000000 in
theorem com1_calls {mb B1 B2 g off n c k h : Nat} {s : ByteArray} {wr : World} (q1 : wr.cell? ⟨B1, 0, none⟩ = some (.pointer (some ⟨b, 0, none⟩))) (q2 : wr.cell? ⟨B2, 0, none⟩ = some (.slice (some ⟨g, off, none⟩) n c)) (q4 : wr.cell? ⟨b, 1, none⟩ = some (.map (some mb)))
    (cx : wr.cell? ⟨g, off + k, none⟩ = some (.int .i64 (h : Int))) (hk : k < n)
    (q5' : ∀ m, (Instr.lookup tMap (.map (some mb)) (.int .i64 (h : Int)) false).run Tryz.prog (wr.drewN m) = .ok (.string s) (wr.drewN m)) :
    Calls Tryz.prog 67 #[.int .i64 (k : Int), .pointer (some ⟨B1, 0, none⟩), .pointer (some ⟨B2, 0, none⟩)] wr fun e w' => e = .returned (.tuple #[.string s, .int .i64 0]) ∧ Fr Nob wr w' := by
  go_enter Tryz.func67, Tryz.ntmps67
  go_wp2_with fail
  go_quiet (fail)
  go_wp2
  go_ret2
  exact ⟨rfl, (Fr.refl _ _).drewN _⟩

theorem seal_facts {stg : Stg} {n c mb : Nat} {E : DSt} {ao : Option Addr} {B1 B2 t1 t2 : Nat} {wr : World} (hL : Lv S0 w0 (Star (dskA kD d E) (Star (rowA tIntE 1 (.slice ao n c) n (nums (keys stg))) (Star (blkA B2 t2 [.slice ao n c]) (Star (blkA B1 t1 [.pointer (some ⟨b, 0, none⟩)]) (Star (lgM b d mb stg false) B))))) wr) :
    wr.cell? ⟨B1, 0, none⟩ = some (.pointer (some ⟨b, 0, none⟩)) ∧ wr.cell? ⟨B2, 0, none⟩ = some (.slice ao n c) ∧ wr.cell? ⟨b, 0, none⟩ = some (.pointer (some ⟨d, 0, none⟩)) ∧ wr.cell? ⟨b, 1, none⟩ = some (.map (some mb)) ∧ IsMp wr mb stg ∧
      ∀ (k : Nat) (x : Nat × ByteArray), stg[k]? = some x → ∃ g off, ao = some ⟨g, off, none⟩ ∧ wr.cell? ⟨g, off + k, none⟩ = some (.int .i64 (x.1 : Int)) := by
  obtain ⟨U1, ⟨T1, U2, _, ⟨T2, U3, h3, ⟨T3, U4, h4, ⟨T4, U5, h5, ⟨T5, U6, ⟨h6, h7, _⟩, _⟩, _⟩, _⟩, _⟩, _⟩, _⟩ := hL
  refine ⟨h5.1.cell rfl, h4.1.cell rfl, h6.cell (j := 0) rfl, h6.cell (j := 1) rfl, h7, fun k x hx => ?_⟩
  exact (row_srcs h3.1 (nums_one _)).at (j := k) (u := .int .i64 (x.1 : Int)) (by simp [nums, keys, hx])

set_option maxRecDepth 100000 in
set_option maxHeartbeats 4000000 in
theorem commits_calls {stg : Stg} {m : Nat} {v : Value} (hL : Lv S0 w0 (Star (lgA b d stg false) (Star (dskA kD d D) (Star (rowA tIntE 1 v stg.length (nums (keys stg))) B))) w) (hB : Loc B) (hg : stg.Good m) (hm : m ≤ 512) (hw : (D.wait.length + 70) * 24 ≤ 140737488355328) :
    Calls Tryz.prog 46 #[.pointer (some ⟨b, 0, none⟩), v] w fun e w' => e = .returned (.int .i64 (D.actsE (commitA stg))) ∧ Lv S0 w0 (Star (lgA b d stg false) (Star (dskA kD d (D.acts (commitA stg))) B)) w' := by
  obtain ⟨mb, hL⟩ := lv_open hL
  obtain ⟨T, S1, S2, _, ⟨S3, S4, h1, _⟩, _⟩ := hL.second
  obtain ⟨ao, c, rfl⟩ := row_any h1.1
  have HG := Lib.hid hg
  have HW := Lib.hid hw
  have HM := Lib.hid hm
  obtain ⟨n, hn⟩ : ∃ n, n = stg.length := ⟨_, rfl⟩
  have HN := Lib.hid hn
  have hnl : n ≤ 30 := by rw [hn]; exact hg.len
  rw [← hn] at hL ⊢
  clear h1 hg hw hm hn
  have hBr : Loc (Star (lgM b d mb stg false) (Star (dskA kD d D) (Star (rowA tIntE 1 (.slice ao n c) n (nums (keys stg))) B))) := loc_star (loc_lgm _ _ _ _ _) (loc_star (loc_dsk _ _ _) (loc_star (loc_row _ _ _ _ _) hB))
  have L1 := (hL.box hBr 29 [.pointer (some ⟨b, 0, none⟩)]).box (loc_star (loc_blk _ _ _) hBr) 59 [.slice ao n c]
  rw [World.size_alloc] at L1
  clear hL
  go_enter Tryz.func46, Tryz.ntmps46
  go_wp2_with fail
  go_loopw [11] (fun i wr => ∃ k : Nat, k ≤ n ∧ i = .int .i64 k ∧ D.actsE (stageTo stg k) = 0 ∧ Lv S0 w0 (Star (blkA (w.heap.size + 1) 59 [.slice ao n c]) (Star (blkA w.heap.size 29 [.pointer (some ⟨b, 0, none⟩)]) (Star (lgM b d mb stg false) (Star (dskA kD d (D.acts (stageTo stg k))) (Star (rowA tIntE 1 (.slice ao n c) n (nums (keys stg))) B))))) wr) (fun i _ => n - (intOf i).toNat)
  case atStart => exact ⟨0, Nat.zero_le _, rfl, rfl, L1⟩
  case round =>
    obtain ⟨k, hk, rfl, hE0, hLk⟩ := hrel
    have HE0 := Lib.hid hE0
    clear L1 hE0
    by_cases hlt : k < n
    · obtain ⟨x, hx⟩ : ∃ x, stg[k]? = some x := ⟨_, List.getElem?_eq_getElem (by rw [← HN.out]; exact hlt)⟩
      have hLk' := hLk
      obtain ⟨q1, q3, q4, q5, h6, q7⟩ := commits_facts hLk' hx HG.out (by have := HM.out; omega)
      obtain ⟨ga, off, rfl, cx⟩ := q7
      have hwk := stage_wait D stg k
      have hx6 : x.1 < 512 := by have := HG.out.lt x (List.mem_of_getElem? hx); have := HM.out; omega
      have hcast : ((2 + k : Nat) : Int) = 2 + (k : Int) := by omega
      obtain ⟨e1, e2⟩ := acts_snoc (.write (2 + k) x.2) HE0.out
      rw [← stageTo_succ hx] at e1 e2
      have e1 : D.acts (stageTo stg (k + 1)) = (D.acts (stageTo stg k)).write (2 + (k : Int)) x.2 := by rw [e1, ← hcast]; rfl
      have e2 : D.actsE (stageTo stg (k + 1)) = (D.acts (stageTo stg k)).writeE (2 + (k : Int)) x.2 := by rw [e2, ← hcast]; rfl
      have E1 := Lib.hid e1
      have E2 := Lib.hid e2
      have HX := Lib.hid hx
      have hBs : Loc (Star (blkA (w.heap.size + 1) 59 [.slice (some ⟨ga, off, none⟩) n c]) (Star (blkA w.heap.size 29 [.pointer (some ⟨b, 0, none⟩)]) (Star (lgM b d mb stg false) (Star (dskA kD d (D.acts (stageTo stg k))) (Star (rowA tIntE 1 (.slice (some ⟨ga, off, none⟩) n c) n (nums (keys stg))) B))))) := loc_star (loc_blk _ _ _) (loc_star (loc_blk _ _ _) (loc_star (loc_lgm _ _ _ _ _) (loc_star (loc_dsk _ _ _) (loc_star (loc_row _ _ _ _ _) hB))))
      have L2 := hLk.drew hBs
      obtain ⟨_, _, _, q5', _, _⟩ := commits_facts L2 hx HG.out (by have := HM.out; omega)
      clear hLk hLk' h6 hx e1 e2 hcast
      have hwr : IntKind.i64.wrap (2 + (k : Int)) = 2 + (k : Int) := by rw [IntKind.wrap_i64]; omega
      go_wp2_with fail
      go_region_held3 (fun w' => w'.cell? ⟨w.heap.size, 0, none⟩ = some (.pointer (some ⟨b, 0, none⟩)) ∧ w'.cell? ⟨b, 0, none⟩ = some (.pointer (some ⟨d, 0, none⟩)) ∧ w'.cell? ⟨b, 1, none⟩ = some (.map (some mb)) ∧ (Instr.lookup tMap (.map (some mb)) (.int .i64 (x.1 : Int)) false).run Tryz.prog w' = .ok (.string x.2) w')
        (first | go_keep | exact ⟨r1, r3, r4, r5⟩)
        (first | (go_at_call 54; refine (L2.op (((((d_write (2 + (k : Int)) x.2 (by have := HW.out; omega)).left (loc_star (loc_row _ _ _ _ _) hB)).right (loc_lgm _ _ _ _ _)).right (loc_blk _ _ _)).right (loc_blk _ _ _))).mono ?_; rintro e w8 ⟨rfl, L8⟩; obtain ⟨r1, r3, r4, r5, _, _⟩ := commits_facts L8 HX.out HG.out (by have := HM.out; omega)))
      clear L2 q1 q3 q4 q5 q5' r1 r3 r4 r5
      by_cases hE : (D.acts (stageTo stg k)).writeE (2 + (k : Int)) x.2 = 0
      · have hE' : ((D.acts (stageTo stg k)).writeE (2 + (k : Int)) x.2 == 0) = true := by rw [beq_iff_eq]; exact hE
        have HEE := Lib.hid hE
        clear hE
        go_wp2_with fail
        go_roundw
        case rel => exact ⟨k + 1, hlt, by go_num, E2.out.trans HEE.out, by rw [E1.out]; exact L8⟩
        case measure => simp [intOf]; omega
      · have hE' : ((D.acts (stageTo stg k)).writeE (2 + (k : Int)) x.2 == 0) = false := by rw [beq_eq_false_iff_ne]; exact hE
        obtain ⟨t, ht⟩ := stage_split stg (k + 1)
        have hstop := acts_stop (D := D) (l := stageTo stg (k + 1)) (k := t ++ (sealA (stg.map (·.1)) ++ installA stg)) (by rw [E2.out]; exact hE)
        have hall : stageTo stg (k + 1) ++ (t ++ (sealA (stg.map (·.1)) ++ installA stg)) = commitA stg := by
          unfold commitA
          rw [ht, List.append_assoc]
        rw [hall] at hstop
        have HS := Lib.hid hstop
        clear hE hstop hall ht
        go_wp2_with fail
        go_ret
        refine ⟨(by rw [HS.out.2, E2.out]; try rfl), ?_⟩
        rw [HS.out.1, E1.out]
        exact lv_shut (L8.drop.drop.map fun U h => star_right h fun _ h => star_less h)
    · obtain rfl : k = n := by omega
      rw [show stageTo stg k = stageA stg by rw [HN.out]; exact stageTo_all stg] at HE0 hLk
      have hwk := stage_wait D stg k
      rw [show stageTo stg k = stageA stg by rw [HN.out]; exact stageTo_all stg] at hwk
      have hBx : Loc (Star (blkA (w.heap.size + 1) 59 [.slice ao k c]) (Star (blkA w.heap.size 29 [.pointer (some ⟨b, 0, none⟩)]) (Star (lgM b d mb stg false) B))) := loc_star (loc_blk _ _ _) (loc_star (loc_blk _ _ _) (loc_star (loc_lgm _ _ _ _ _) hB))
      have L2 : Lv S0 w0 (Star (dskA kD d (D.acts (stageA stg))) (Star (rowA tIntE 1 (.slice ao k c) k (nums (keys stg))) (Star (blkA (w.heap.size + 1) 59 [.slice ao k c]) (Star (blkA w.heap.size 29 [.pointer (some ⟨b, 0, none⟩)]) (Star (lgM b d mb stg false) B))))) wr := hLk.map (fun U h =>
        star_right (star_right (star_right (star_flip (star_right (star_right h fun _ h => star_right h fun _ h => star_flip h) fun _ h => star_flip h)) fun _ h => star_right h fun _ h => star_right h fun _ h => star_flip h) fun _ h => star_right h fun _ h => star_flip h) fun _ h => star_flip h)
      obtain ⟨q1, q2, q3, q4, _, _⟩ := seal_facts L2
      have L3 := L2.drew (loc_star (loc_dsk _ _ _) (loc_star (loc_row _ _ _ _ _) hBx))
      have hkl : (keys stg).length = k := by unfold keys; rw [List.length_map]; exact HN.out.symm
      clear hLk L2
      go_wp2_with fail
      go_region_held3 (fun w' => w'.cell? ⟨w.heap.size, 0, none⟩ = some (.pointer (some ⟨b, 0, none⟩)) ∧ w'.cell? ⟨w.heap.size + 1, 0, none⟩ = some (.slice ao k c) ∧ w'.cell? ⟨b, 0, none⟩ = some (.pointer (some ⟨d, 0, none⟩)))
        (first | go_keep | exact ⟨r1, r2, r3⟩)
        (first | (go_at_call 55; refine (sealed_calls (l := keys stg) (by rw [hkl]; exact L3) hBx (by rw [hkl]; exact hnl) (by intro h hh; obtain ⟨y, hy, rfl⟩ := List.mem_map.1 hh; have := HG.out.lt y hy; have := HM.out; omega) (by have := HW.out; omega)).mono ?_; rintro e w8 ⟨rfl, L8⟩; rw [hkl] at L8; obtain ⟨r1, r2, r3, r4, _, _⟩ := seal_facts L8))
      clear L3 q1 q2 q3 q4
      have hstay : D.acts (commitA stg) = (if (D.acts (stageA stg)).actsE (sealA (keys stg)) = 0 then ((D.acts (stageA stg)).acts (sealA (keys stg))).acts (installA stg) else (D.acts (stageA stg)).acts (sealA (keys stg))) ∧
          D.actsE (commitA stg) = (if (D.acts (stageA stg)).actsE (sealA (keys stg)) = 0 then ((D.acts (stageA stg)).acts (sealA (keys stg))).actsE (installA stg) else (D.acts (stageA stg)).actsE (sealA (keys stg))) := by
        have h1 : D.acts (commitA stg) = (D.acts (stageA stg)).acts (sealA (keys stg) ++ installA stg) := by
          unfold commitA; rw [DSt.acts_append, if_pos HE0.out]; rfl
        have h2 : D.actsE (commitA stg) = (D.acts (stageA stg)).actsE (sealA (keys stg) ++ installA stg) := by
          unfold commitA; rw [DSt.actsE_append, if_pos HE0.out]; rfl
        rw [h1, h2, DSt.acts_append, DSt.actsE_append]
        exact ⟨rfl, rfl⟩
      have HS := Lib.hid hstay
      clear hstay
      have shut : ∀ (E : DSt) (wr : World), Lv S0 w0 (Star (dskA kD d E) (Star (rowA tIntE 1 (.slice ao k c) k (nums (keys stg))) (Star (blkA (w.heap.size + 1) 59 [.slice ao k c]) (Star (blkA w.heap.size 29 [.pointer (some ⟨b, 0, none⟩)]) (Star (lgM b d mb stg false) B))))) wr →
          Lv S0 w0 (Star (lgA b d stg false) (Star (dskA kD d E) B)) wr := fun E wr h => lv_shut (h.map fun U h => star_flip (star_less (star_less (star_less h))))
      have SHUT := Lib.hid shut
      clear shut
      by_cases hE : (D.acts (stageA stg)).actsE (sealA (keys stg)) = 0
      · have hE' : ((D.acts (stageA stg)).actsE (sealA (keys stg)) == 0) = true := by rw [beq_iff_eq]; exact hE
        rw [if_pos hE, if_pos hE] at HS
        clear hE
        have L9 := L8.drew (loc_star (loc_dsk _ _ _) (loc_star (loc_row _ _ _ _ _) hBx))
        have hwk2 := acts_wait (sealA (keys stg)) (D.acts (stageA stg))
        have hs3 : (sealA (keys stg)).length = 3 := rfl
        have hkn : k = stg.length := HN.out
        have hin := fun (wr : World) (hLr : Lv S0 w0 (Star (dskA kD d ((D.acts (stageA stg)).acts (sealA (keys stg)))) (Star (rowA tIntE 1 (.slice ao k c) k (nums (keys stg))) (Star (blkA (w.heap.size + 1) 59 [.slice ao k c]) (Star (blkA w.heap.size 29 [.pointer (some ⟨b, 0, none⟩)]) (Star (lgM b d mb stg false) B))))) wr) =>
          install_calls (l := stg) (v := .slice ao k c) (g := 67) (caps := #[.pointer (some ⟨w.heap.size, 0, none⟩), .pointer (some ⟨w.heap.size + 1, 0, none⟩)]) (enters_of Tryz.func67 (by kernel_rfl) rfl) (by rw [← hkn]; exact hLr) hBx HG.out.len
            (fun x hx => by have := HG.out.lt x hx; have := HM.out; omega) (by have := HW.out; omega) (by
              intro k' x wr' hx _ hLr'
              rw [← hkn] at hLr'
              obtain ⟨q1, q2, _, q4, hmp, hrow⟩ := seal_facts hLr'
              obtain ⟨g, off, hao, cx⟩ := hrow k' x hx
              rw [hao] at q2
              have hmem := List.mem_of_getElem? hx
              have hx6 := HG.out.lt x hmem
              have hlk : ∀ m, (Instr.lookup tMap (.map (some mb)) (.int .i64 (x.1 : Int)) false).run Tryz.prog (wr'.drewN m) = .ok (.string x.2) (wr'.drewN m) := fun m => by
                have := mp_look (hmp.fr ((Fr.refl Nob wr').drewN m) (fun h => h)) x.1 (by have := HM.out; omega)
                rwa [at_of_mem HG.out.ok hmem] at this
              exact com1_calls q1 q2 q4 cx (by rw [hkn]; exact (List.getElem?_eq_some_iff.1 hx).1) hlk)
        have hcall := hin _ L9
        rw [← hkn] at hcall
        have HC := Lib.hid hcall
        clear hin hcall L8 hkn
        go_wp2_with fail
        go_region_held3 (fun w' => w'.cell? ⟨w.heap.size, 0, none⟩ = some (.pointer (some ⟨b, 0, none⟩)) ∧ w'.cell? ⟨w.heap.size + 1, 0, none⟩ = some (.slice ao k c) ∧ w'.cell? ⟨b, 0, none⟩ = some (.pointer (some ⟨d, 0, none⟩)))
          (first | go_keep | exact ⟨s1, s2, s3⟩)
          (first | (go_at_call 31; refine HC.out.mono ?_; rintro e w10 ⟨rfl, L10⟩; obtain ⟨s1, s2, s3, s4, _, _⟩ := seal_facts L10))
        go_wp2_with fail
        go_ret
        exact ⟨(by rw [HS.out.2]; try rfl), by rw [HS.out.1]; exact SHUT.out _ _ L10⟩
      · have hE' : ((D.acts (stageA stg)).actsE (sealA (keys stg)) == 0) = false := by rw [beq_eq_false_iff_ne]; exact hE
        rw [if_neg hE, if_neg hE] at HS
        clear hE
        go_wp2_with fail
        go_ret
        exact ⟨(by rw [HS.out.2]; try rfl), by rw [HS.out.1]; exact SHUT.out _ _ L8⟩
end
end Go.Proofs.YtchilnjocnkodaaGreat
