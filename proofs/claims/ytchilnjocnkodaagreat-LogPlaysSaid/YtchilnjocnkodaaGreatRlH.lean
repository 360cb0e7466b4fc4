/- The document's log: acts. -/
import Derived.Test.YtchilnjocnkodaaGreatRlG
namespace Go.Proofs.YtchilnjocnkodaaGreat
open Go.RowKit

theorem keys_take {stg : Stg} {k : Nat} {x : Nat × ByteArray} (hx : stg[k]? = some x) : keys (stg.take (k + 1)) = keys (stg.take k) ++ [x.1] ∧ vals (stg.take (k + 1)) = vals (stg.take k) ++ [x.2] := by
  unfold keys vals
  rw [List.take_add_one, hx]
  simp
section
variable {S0 : Nat → Prop} {w0 w : World} {b d : Nat} {D : DSt} {B : Asr}
theorem dsk_first {A1 A2 A3 C R : Asr} {U : Nat → Prop} (h : Star A1 (Star A2 (Star A3 (Star C R))) w U) : Star C (Star A1 (Star A2 (Star A3 R))) w U :=
  star_flip (star_right h fun _ h => star_flip (star_right h fun _ h => star_flip h))
/-- With the place of its rows. -/
def rlX (b d : Nat) (ao : Option Addr) (c : Nat) (stg : Stg) (dead : Bool) : Asr := fun w S => Blk w b tRLog [.pointer (some ⟨d, 0, none⟩), .slice ao stg.length c, .bool dead] ∧ w.ownsRow 0 tRRow 2 (.slice ao stg.length c) stg.length (flatR stg) ∧ S b ∧ ∀ k, (Value.slice ao stg.length c).ownBlock = some k → S k
theorem loc_rlx (b d : Nat) (ao : Option Addr) (c : Nat) (stg : Stg) (dead : Bool) : Loc (rlX b d ao c stg dead) := by
  rintro w w' S T ⟨h1, h2, h3, h4⟩ hf hT
  exact ⟨h1.fr hf (hT _ h3), row_fr h2 hf (fun k hk => hT k (h4 k hk)), h3, h4⟩
theorem rl_open {X : Asr} {stg : Stg} {dead : Bool} (h : Lv S0 w0 (Star (rlA b d stg dead) X) w) : ∃ ao c, Lv S0 w0 (Star (rlX b d ao c stg dead) X) w := by
  obtain ⟨U, ⟨S, T, ⟨ao, c, h1⟩, h2⟩, h3⟩ := h
  exact ⟨ao, c, U, ⟨S, T, h1, h2⟩, h3⟩
theorem rl_shut {X : Asr} {ao : Option Addr} {c : Nat} {stg : Stg} {dead : Bool} (h : Lv S0 w0 (Star (rlX b d ao c stg dead) X) w) : Lv S0 w0 (Star (rlA b d stg dead) X) w :=
  h.map fun _ h => star_left h fun _ h => ⟨ao, c, h⟩
theorem rlx_cells {S : Nat → Prop} {ao : Option Addr} {c : Nat} {stg : Stg} {dead : Bool} (h : rlX b d ao c stg dead w S) : RlCells w b d stg dead ao c := by
  obtain ⟨h1, h2, _⟩ := h
  refine ⟨h1.cell (j := 0) rfl, h1.cell (j := 1) rfl, h1.cell (j := 2) rfl, h1.free, fun k x hx => ?_⟩
  have hs := row_srcs h2 (flatR_one _)
  have f0 := flatR_get hx 0 (by omega)
  have f1 := flatR_get hx 1 (by omega)
  obtain ⟨g, o, e, q⟩ := hs.at (f0.trans rfl)
  obtain ⟨g1, o1, e1, q1⟩ := hs.at (f1.trans rfl)
  rw [e] at e1
  simp only [Option.some.injEq, Addr.mk.injEq, and_true] at e1
  obtain ⟨rfl, rfl⟩ := e1
  exact ⟨g, o, e, q, q1⟩
theorem acts_cells {A1 A2 : Asr} {ao : Option Addr} {c : Nat} {stg : Stg} {dead : Bool} {E : DSt} {wr : World} (h : Lv S0 w0 (Star A1 (Star A2 (Star (rlX b d ao c stg dead) (Star (dskA kR d E) B)))) wr) : RlCells wr b d stg dead ao c := by
  obtain ⟨_, ⟨_, _, _, ⟨_, _, _, ⟨_, _, h, _⟩, _⟩, _⟩, _⟩ := h
  exact rlx_cells h
theorem acts_cells1 {A1 : Asr} {ao : Option Addr} {c : Nat} {stg : Stg} {dead : Bool} {E : DSt} {wr : World} (h : Lv S0 w0 (Star A1 (Star (rlX b d ao c stg dead) (Star (dskA kR d E) B))) wr) : RlCells wr b d stg dead ao c := by
  obtain ⟨_, ⟨_, _, _, ⟨_, _, h, _⟩, _⟩, _⟩ := h
  exact rlx_cells h

set_option maxRecDepth 100000 in
set_option maxHeartbeats 8000000 in
theorem racts_calls {stg : Stg} {dead : Bool} (hL : Lv S0 w0 (Star (rlA b d stg dead) (Star (dskA kR d D) B)) w) (hB : Loc B) (hg : stg.Good 512) (hw : (D.wait.length + 70) * 24 ≤ 140737488355328) :
    Calls Tryz.prog 60 #[.pointer (some ⟨b, 0, none⟩)] w fun e w' => e = .returned (.int .i64 (D.actsE (commitA stg))) ∧ Lv S0 w0 (Star (rlA b d stg dead) (Star (dskA kR d (D.acts (commitA stg))) B)) w' := by
  obtain ⟨ao, c, hL⟩ := rl_open hL
  have HG := Lib.hid hg
  have HW := Lib.hid hw
  obtain ⟨n, hn⟩ : ∃ n, n = stg.length := ⟨_, rfl⟩
  have HN := Lib.hid hn
  have hn30 : n ≤ 30 := by rw [hn]; exact hg.len
  have hlR : ∀ E : DSt, Loc (Star (rlX b d ao c stg dead) (Star (dskA kR d E) B)) := fun E => loc_star (loc_rlx _ _ _ _ _ _) (loc_star (loc_dsk _ _ _) hB)
  have L1 : Lv S0 w0 (Star (rowA tIntE 1 (.slice none 0 0) 0 (nums (keys (stg.take 0)))) (Star (rowA tStr 1 (.slice none 0 0) 0 (strs (vals (stg.take 0)))) (Star (rlX b d ao c stg dead) (Star (dskA kR d (D.acts (stageTo stg 0))) B)))) w := by
    have L0 : Lv S0 w0 (Star (rowA tStr 1 (.slice none 0 0) 0 (strs (vals (stg.take 0)))) (Star (rlX b d ao c stg dead) (Star (dskA kR d D) B))) w := hL.new (hlR D) (Fr.refl _ _) ⟨World.ownsRow_nil _ _ _ _, fun k hk => (by cases hk)⟩
    exact L0.new (loc_star (loc_row _ _ _ _ _) (hlR D)) (Fr.refl _ _) ⟨World.ownsRow_nil _ _ _ _, fun k hk => (by cases hk)⟩
  have hrel0 : ∃ k : Nat, k ≤ n ∧ Value.int .i64 0 = .int .i64 k ∧ D.actsE (stageTo stg k) = 0 ∧ ∃ a1 c1 a2 c2, Value.slice none 0 0 = .slice a1 k c1 ∧ Value.slice none 0 0 = .slice a2 k c2 ∧
      Lv S0 w0 (Star (rowA tIntE 1 (.slice a1 k c1) k (nums (keys (stg.take k)))) (Star (rowA tStr 1 (.slice a2 k c2) k (strs (vals (stg.take k)))) (Star (rlX b d ao c stg dead) (Star (dskA kR d (D.acts (stageTo stg k))) B)))) w :=
    ⟨0, Nat.zero_le _, rfl, rfl, none, 0, none, 0, rfl, rfl, L1⟩
  clear hg hw hn hL L1
  go_enter Tryz.func60, Tryz.ntmps60
  go_wp2_with fail
  go_loopw [3, 4, 5] (fun s3 s4 s5 wr => ∃ k : Nat, k ≤ n ∧ s5 = .int .i64 k ∧ D.actsE (stageTo stg k) = 0 ∧ ∃ a1 c1 a2 c2, s3 = .slice a1 k c1 ∧ s4 = .slice a2 k c2 ∧
      Lv S0 w0 (Star (rowA tIntE 1 (.slice a1 k c1) k (nums (keys (stg.take k)))) (Star (rowA tStr 1 (.slice a2 k c2) k (strs (vals (stg.take k)))) (Star (rlX b d ao c stg dead) (Star (dskA kR d (D.acts (stageTo stg k))) B)))) wr) (fun _ _ s5 _ => n - (intOf s5).toNat)
  case atStart => exact hrel0
  case round =>
    obtain ⟨k, hk, rfl, hE0, a1, c1, a2, c2, rfl, rfl, hLk⟩ := hrel
    have hc := acts_cells hLk
    have cc0 := hc.c0
    have cc1 := hc.c1
    rw [← HN.out] at cc1
    have HC := Lib.hid hc
    have HE0 := Lib.hid hE0
    clear hrel0 hc hE0
    by_cases hlt : k < n
    · obtain ⟨x, hx⟩ : ∃ x, stg[k]? = some x := ⟨_, List.getElem?_eq_getElem (by rw [← HN.out]; exact hlt)⟩
      obtain ⟨g, off, rfl, q0, q1⟩ := HC.out.row k x hx
      have HX := Lib.hid hx
      obtain ⟨kt, vt⟩ := keys_take hx
      have HKT := Lib.hid kt
      have HVT := Lib.hid vt
      obtain ⟨S1, hr1, _⟩ := hLk.first
      have HR1 := Lib.hid hr1
      have hl1 := loc_star (loc_row tStr 1 (.slice a2 k c2) k (strs (vals (stg.take k)))) (hlR (D.acts (stageTo stg k)))
      clear hx kt vt hr1
      go_wp2_with (at_builtin; go_loud (refine wpList_append_mine rfl (ho := rfl) (s := .tmp 17) (x := .tmp 26) Tryz.rowInt rfl (HR1.out.alloc _) rfl (srcs_one wr _ _ 1 rfl) (by omega) ?_); skip)
      intro v' w3 hown3 hf3 hv3 _
      obtain ⟨g', cap', rfl⟩ := row_succ hown3
      have L3 := (hLk.alloc (loc_star (loc_row _ _ _ _ _) hl1) (.cells #[.int .i64 (x.1 : Int)] tIntE)).turn hl1 (turn_append hown3 hf3 (fun k hk => by have := hv3 k hk; rwa [World.size_alloc]))
      have hc3 := acts_cells L3
      have r1 := hc3.c1
      rw [← HN.out] at r1
      obtain ⟨_, _, e3, p0, p1⟩ := hc3.row k x HX.out
      cases e3
      have L3' := L3.map fun _ h => star_flip h
      obtain ⟨S2, hr2, _⟩ := L3'.first
      have HR2 := Lib.hid hr2
      have hl2 := loc_star (loc_row tIntE 1 (.slice (some ⟨g', 0, none⟩) (k + 1) cap') (k + 1) (nums (keys (stg.take k)) ++ [.int .i64 (x.1 : Int)])) (hlR (D.acts (stageTo stg k)))
      clear hown3 hf3 hv3 L3 hLk hr2 q0 q1 cc0 cc1 hc3 HR1 HC
      go_wp2_with (at_builtin; go_loud (refine wpList_append_mine rfl (ho := rfl) (s := .tmp 28) (x := .tmp 37) Tryz.rowStr rfl (HR2.out.alloc _) rfl (srcs_one w3 _ _ 1 rfl) (by omega) ?_); skip)
      intro v' w4 hown4 hf4 hv4 _
      obtain ⟨g4, cap4, rfl⟩ := row_succ hown4
      have L4 := (L3'.alloc (loc_star (loc_row _ _ _ _ _) hl2) (.cells #[.string x.2] tStr)).turn hl2 (turn_append hown4 hf4 (fun k hk => by have := hv4 k hk; rwa [World.size_alloc]))
      have hl4 := loc_star (loc_row tStr 1 (.slice (some ⟨g4, 0, none⟩) (k + 1) cap4) (k + 1) (strs (vals (stg.take k)) ++ [.string x.2])) hl2
      have hc4 := acts_cells L4
      have s0 := hc4.c0
      have s1 := hc4.c1
      rw [← HN.out] at s1
      obtain ⟨_, _, e5, p2, p3⟩ := hc4.row k x HX.out
      cases e5
      have L5 := L4.drew hl4
      have hwk := stage_wait D stg k
      obtain ⟨e1, e2⟩ := acts_snoc (.write (2 + k) x.2) HE0.out
      rw [← stageTo_succ HX.out] at e1 e2
      have hcast : ((2 + k : Nat) : Int) = 2 + (k : Int) := by omega
      have e1 : D.acts (stageTo stg (k + 1)) = (D.acts (stageTo stg k)).write (2 + (k : Int)) x.2 := by rw [e1, ← hcast]; rfl
      have e2 : D.actsE (stageTo stg (k + 1)) = (D.acts (stageTo stg k)).writeE (2 + (k : Int)) x.2 := by rw [e2, ← hcast]; rfl
      have E1 := Lib.hid e1
      have E2 := Lib.hid e2
      have hw2 : IntKind.i64.wrap (2 + (k : Int)) = 2 + (k : Int) := by rw [IntKind.wrap_i64]; omega
      clear hown4 hf4 hv4 L3' L4 HR2 r1 p0 p1 hc4 e1 e2 hcast
      go_wp2_with fail
      go_region_held3 (fun w' => w'.cell? ⟨b, 0, none⟩ = some (.pointer (some ⟨d, 0, none⟩)) ∧ w'.cell? ⟨b, 1, none⟩ = some (.slice (some ⟨g, off, none⟩) n c) ∧ w'.cell? ⟨g, off + k * 2 + 1, none⟩ = some (.string x.2))
        (first | go_keep | exact ⟨t0, t1, t2⟩)
        (first | (go_at_call 57; refine (L5.op (((((r_write (2 + (k : Int)) x.2 (by have := HW.out; omega)).left hB).right (loc_rlx _ _ _ _ _ _)).right (loc_row _ _ _ _ _)).right (loc_row _ _ _ _ _))).mono ?_; rintro e w8 ⟨rfl, L8⟩; have hc8 := acts_cells L8; have t0 := hc8.c0; have t1 := hc8.c1; rw [← HN.out] at t1; obtain ⟨_, _, e8, _, t2⟩ := hc8.row k x HX.out; cases e8))
      have L9 := L8.map (B := Star (rowA tIntE 1 (.slice (some ⟨g', 0, none⟩) (k + 1) cap') (k + 1) (nums (keys (stg.take (k + 1))))) (Star (rowA tStr 1 (.slice (some ⟨g4, 0, none⟩) (k + 1) cap4) (k + 1) (strs (vals (stg.take (k + 1))))) (Star (rlX b d (some ⟨g, off, none⟩) c stg dead) (Star (dskA kR d (D.acts (stageTo stg (k + 1)))) B)))) (fun U h => by
        rw [HKT.out, HVT.out, E1.out, show nums (keys (stg.take k) ++ [x.1]) = nums (keys (stg.take k)) ++ [.int .i64 (x.1 : Int)] by simp [nums], show strs (vals (stg.take k) ++ [x.2]) = strs (vals (stg.take k)) ++ [.string x.2] by simp [strs]]
        exact star_flip h)
      clear L5 L8 hc8 s0 s1 p2 p3 t0 t1 t2
      by_cases hE : (D.acts (stageTo stg k)).writeE (2 + (k : Int)) x.2 = 0
      · have hE' : ((D.acts (stageTo stg k)).writeE (2 + (k : Int)) x.2 == 0) = true := by rw [beq_iff_eq]; exact hE
        have HEE := Lib.hid hE
        clear hE
        go_wp2_with fail
        go_roundw
        case rel => exact ⟨k + 1, hlt, by go_num, E2.out.trans HEE.out, _, _, _, _, rfl, rfl, L9⟩
        case measure => simp [intOf]; omega
      · have hE' : ((D.acts (stageTo stg k)).writeE (2 + (k : Int)) x.2 == 0) = false := by rw [beq_eq_false_iff_ne]; exact hE
        obtain ⟨t, ht⟩ := stage_split stg (k + 1)
        have hstop := acts_stop (D := D) (l := stageTo stg (k + 1)) (k := t ++ (sealA (stg.map (·.1)) ++ installA stg)) (by rw [E2.out]; exact hE)
        have hall : stageTo stg (k + 1) ++ (t ++ (sealA (stg.map (·.1)) ++ installA stg)) = commitA stg := by
          unfold commitA
          rw [ht, List.append_assoc]
        rw [hall] at hstop
        have HS := Lib.hid hstop
        clear hE hstop hall ht
        go_wp2_with fail
        go_ret
        refine ⟨(by rw [HS.out.2, E2.out]; try rfl), ?_⟩
        rw [HS.out.1]
        exact rl_shut L9.drop.drop
    · obtain rfl : k = n := by omega
      rw [show stageTo stg k = stageA stg by rw [HN.out]; exact stageTo_all stg] at HE0 hLk
      have hwk := stage_wait D stg k
      rw [show stageTo stg k = stageA stg by rw [HN.out]; exact stageTo_all stg] at hwk
      rw [show stg.take k = stg by rw [HN.out, List.take_length]] at hLk
      obtain ⟨E, hEE⟩ : ∃ E, E = D.acts (stageA stg) := ⟨_, rfl⟩
      have hstay : D.acts (commitA stg) = (if E.actsE (sealA (keys stg)) = 0 then (E.acts (sealA (keys stg))).acts (installA stg) else E.acts (sealA (keys stg))) ∧
          D.actsE (commitA stg) = (if E.actsE (sealA (keys stg)) = 0 then (E.acts (sealA (keys stg))).actsE (installA stg) else E.actsE (sealA (keys stg))) := by
        have h1 : D.acts (commitA stg) = E.acts (sealA (keys stg) ++ installA stg) := by
          unfold commitA; rw [DSt.acts_append, if_pos HE0.out, ← hEE]; rfl
        have h2 : D.actsE (commitA stg) = E.actsE (sealA (keys stg) ++ installA stg) := by
          unfold commitA; rw [DSt.actsE_append, if_pos HE0.out, ← hEE]; rfl
        rw [h1, h2, DSt.acts_append, DSt.actsE_append]
        exact ⟨rfl, rfl⟩
      rw [← hEE] at hLk hwk
      obtain ⟨e1, e2⟩ := seal_eq E (keys stg)
      rw [e1, e2] at hstay
      have HS := Lib.hid hstay
      have hkl : (keys stg).length = k := by unfold keys; rw [List.length_map]; exact HN.out.symm
      have HKL := Lib.hid hkl
      have hkb : ∀ h ∈ keys stg, h < 65536 := by intro h hh; obtain ⟨y, hy, rfl⟩ := List.mem_map.1 hh; have := HG.out.lt y hy; omega
      have HKB := Lib.hid hkb
      have hF := flush_keeps E
      have hW := write_keeps E.flush 1 (headP (keys stg))
      have hF2 := flush_keeps (E.flush.write 1 (headP (keys stg)))
      clear hstay e1 e2 hEE hkl hkb
      go_wp2_with fail
      refine (hLk.op (((((r_flush (by have := HW.out; omega)).left hB).right (loc_rlx _ _ _ _ _ _)).right (loc_row _ _ _ _ _)).right (loc_row _ _ _ _ _))).mono ?_
      rintro e w1 ⟨rfl, L1⟩
      have hc1 := acts_cells L1
      have u0 := hc1.c0
      have hl1 := loc_star (loc_row tIntE 1 (.slice a1 k c1) k (nums (keys stg))) (loc_star (loc_row tStr 1 (.slice a2 k c2) k (strs (vals stg))) (hlR E.flush))
      clear hLk cc0 cc1 hc1 HC
      have hhc : ∀ W, Lv S0 w0 (Star (rowA tIntE 1 (.slice a1 k c1) k (nums (keys stg))) (Star (rowA tStr 1 (.slice a2 k c2) k (strs (vals stg))) (Star (rlX b d ao c stg dead) (Star (dskA kR d E.flush) B)))) W →
          Calls Tryz.prog 56 #[.slice a1 k c1] W fun e w' => e = .returned (.string (headP (keys stg))) ∧ Lv S0 w0 (Star (rowA tIntE 1 (.slice a1 k c1) k (nums (keys stg))) (Star (rowA tStr 1 (.slice a2 k c2) k (strs (vals stg))) (Star (rlX b d ao c stg dead) (Star (dskA kR d E.flush) B)))) w' := by
        intro W hW
        obtain ⟨_, hr, _⟩ := hW.first
        have h1 := rhead_calls (l := keys stg) (ao := a1) (c := c1) (w := W) (by rw [HKL.out]; exact row_srcs hr (nums_one _)) (by rw [HKL.out]; exact hn30) HKB.out
        rw [HKL.out] at h1
        exact hW.calls hl1 h1
      have HHC := Lib.hid hhc
      clear hhc
      by_cases hE : E.flushE = 0
      · have hE' : (E.flushE == 0) = true := by rw [beq_iff_eq]; exact hE
        have hs := HS.out
        simp only [if_pos hE] at hs
        have HS2 := Lib.hid hs
        have L2 := L1.drew hl1
        clear hs hE HS L1
        go_wp2_with fail
        go_region_held3 (fun w' => w'.cell? ⟨b, 0, none⟩ = some (.pointer (some ⟨d, 0, none⟩)))
          (first | go_keep | exact t0 | exact t1)
          (first
            | (go_at_call 56; refine (HHC.out _ L2).mono ?_; rintro e w3 ⟨rfl, L3⟩; have t0 := (acts_cells L3).c0)
            | (go_at_call 57; refine (L3.op (((((r_write 1 (headP (keys stg)) (by have := HW.out; omega)).left hB).right (loc_rlx _ _ _ _ _ _)).right (loc_row _ _ _ _ _)).right (loc_row _ _ _ _ _))).mono ?_; rintro e w4 ⟨rfl, L4⟩; have t1 := (acts_cells L4).c0))
        clear L2 L3 u0 t0
        by_cases hE2 : E.flush.writeE 1 (headP (keys stg)) = 0
        · have hE2' : (E.flush.writeE 1 (headP (keys stg)) == 0) = true := by rw [beq_iff_eq]; exact hE2
          have hs := HS2.out
          simp only [if_pos hE2] at hs
          have HS3 := Lib.hid hs
          clear hs hE2 HS2
          go_wp2_with fail
          refine (L4.op (((((r_flush (by have := HW.out; omega)).left hB).right (loc_rlx _ _ _ _ _ _)).right (loc_row _ _ _ _ _)).right (loc_row _ _ _ _ _))).mono ?_
          rintro e w5 ⟨rfl, L5⟩
          have u5 := (acts_cells L5).c0
          clear L4 t1
          by_cases hE3 : (E.flush.write 1 (headP (keys stg))).flushE = 0
          · have hE3' : ((E.flush.write 1 (headP (keys stg))).flushE == 0) = true := by rw [beq_iff_eq]; exact hE3
            have hs := HS3.out
            simp only [if_pos hE3] at hs
            have HS4 := Lib.hid hs
            have L6 : Lv S0 w0 (Star (dskA kR d (E.flush.write 1 (headP (keys stg))).flush) (Star (rowA tIntE 1 (.slice a1 k c1) k (nums (keys stg))) (Star (rowA tStr 1 (.slice a2 k c2) k (strs (vals stg))) (Star (rlX b d ao c stg dead) B)))) w5 :=
              L5.map fun _ h => dsk_first h
            have HI := Lib.hid (rinstall_calls (l := stg) HN.out L6 (loc_star (loc_rlx _ _ _ _ _ _) hB) hn30 (fun x hx => by have := HG.out.lt x hx; omega) (by have := HW.out; omega))
            clear hs hE3 HS3 L5 L6
            go_wp2_with fail
            refine HI.out.mono ?_
            rintro e w6 ⟨rfl, L7⟩
            go_wp2_with fail
            go_ret
            refine ⟨(by rw [HS4.out.2]; try rfl), ?_⟩
            rw [HS4.out.1]
            exact rl_shut (L7.map fun _ h => star_flip (star_less (star_less h)))
          · have hE3' : ((E.flush.write 1 (headP (keys stg))).flushE == 0) = false := by rw [beq_eq_false_iff_ne]; exact hE3
            have hs := HS3.out
            simp only [if_neg hE3] at hs
            have HS4 := Lib.hid hs
            clear hs hE3 HS3
            go_wp2_with fail
            go_ret
            refine ⟨(by rw [HS4.out.2]; try rfl), ?_⟩
            rw [HS4.out.1]
            exact rl_shut L5.drop.drop
        · have hE2' : (E.flush.writeE 1 (headP (keys stg)) == 0) = false := by rw [beq_eq_false_iff_ne]; exact hE2
          have hs := HS2.out
          simp only [if_neg hE2] at hs
          have HS3 := Lib.hid hs
          clear hs hE2 HS2
          go_wp2_with fail
          go_ret
          refine ⟨(by rw [HS3.out.2]; try rfl), ?_⟩
          rw [HS3.out.1]
          exact rl_shut L4.drop.drop
      · have hE' : (E.flushE == 0) = false := by rw [beq_eq_false_iff_ne]; exact hE
        have hs := HS.out
        simp only [if_neg hE] at hs
        have HS2 := Lib.hid hs
        clear hs hE HS
        go_wp2_with fail
        go_ret
        refine ⟨(by rw [HS2.out.2]; try rfl), ?_⟩
        rw [HS2.out.1]
        exact rl_shut L1.drop.drop
end
end Go.Proofs.YtchilnjocnkodaaGreat
