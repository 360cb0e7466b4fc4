/- DiskKeeps, walked. -/
import Derived.Test.YtimhjhiipghdhaaOfA
import Derived.Test.YtimhjhiipghdhaaLawG
import Derived.Test.YtimhjhiipghdhaaLawD
namespace Go.Proofs.Ytimhjhiipghdhaa
open Go.RowKit

def keepStep (D : DSt) (a : ActD) : DSt := if a.kind = 2 ∧ D.wait.length < 64 then D.write a.i (secOf a.s) else if a.kind = 3 then D.flush else D
def keepRun (D : DSt) (l : List ActD) : DSt := l.foldl keepStep D
structure KeepInv (n : Nat) (D : DSt) : Prop where
  off : D.off = false
  power : D.power = -1
  waits : D.wait.length ≤ n
theorem keep_step {n : Nat} {D : DSt} (h : KeepInv n D) (a : ActD) : KeepInv (n + 1) (keepStep D a) := by
  obtain ⟨h1, h2, h3⟩ := h
  unfold keepStep
  split
  · have h4 := write_lives h1 h2 a.i (secOf a.s)
    have h5 := write_keeps D a.i (secOf a.s)
    exact ⟨h4.1, h4.2, by omega⟩
  · split
    · have h4 := flush_lives h1 h2
      have h5 := flush_keeps D
      exact ⟨h4.1, h4.2, by omega⟩
    · exact ⟨h1, h2, by omega⟩
theorem keep_run {n : Nat} {D : DSt} (h : KeepInv n D) (l : List ActD) : KeepInv (n + l.length) (keepRun D l) := by
  induction l generalizing n D with
  | nil => exact h
  | cons a l ih =>
    have := ih (keep_step h a)
    rw [List.length_cons, Nat.add_comm l.length 1, ← Nat.add_assoc]
    exact this
theorem keepRun_take {D : DSt} {acts : List ActD} {k : Nat} {a : ActD} (h : acts[k]? = some a) : keepRun D (acts.take (k + 1)) = keepStep (keepRun D (acts.take k)) a := by
  unfold keepRun
  rw [List.take_add_one, h]
  simp

theorem kept_all (w : List (Nat × ByteArray)) : kept 18446744073709551615 w = w := by
  unfold kept
  have h : w.zipIdx.filter (fun x => 18446744073709551615 / 2 ^ (x.2 % 64) % 2 == 1) = w.zipIdx := by
    rw [List.filter_eq_self]
    intro x _
    have key : ∀ k, k < 64 → (18446744073709551615 / 2 ^ k % 2 == 1) = true := by decide
    exact key _ (Nat.mod_lt _ (by decide))
  rw [h, List.zipIdx_map_fst]
theorem kept_none (w : List (Nat × ByteArray)) : kept 0 w = [] := by
  unfold kept
  have h : w.zipIdx.filter (fun x => 0 / 2 ^ (x.2 % 64) % 2 == 1) = [] := by
    rw [List.filter_eq_nil_iff]
    intro x _
    simp
  rw [h]; rfl
theorem crash_all {D : DSt} (h0 : D.off = false) (h1 : D.power = -1) : (D.crash 18446744073709551615).safe = D.flush.safe := by
  rw [(DSt.flush_on h0 h1).1]
  show puts D.safe (kept _ D.wait) = puts D.safe D.wait
  rw [kept_all]
theorem crash_none (D : DSt) : (D.crash 0).safe = D.safe := by
  show puts D.safe (kept _ D.wait) = D.safe
  rw [kept_none]; rfl
theorem write_safe (D : DSt) (i : Int) (s : ByteArray) : (D.write i s).safe = D.safe := by
  unfold DSt.write
  split
  · rfl
  · split
    · rfl
    · split <;> rfl

def KeepRel (acts : List ActD) (w : World) (a b : Nat) (s8 : Value) (wr : World) : Prop :=
  ∃ k : Nat, k ≤ acts.length ∧ s8 = .int .i64 k ∧ ∃ D, D = keepRun (DSt.fresh 48) (acts.take k) ∧ Live w (Star (dskA kD a D) (Star (dskA kD b D) Emp)) wr
def StillRel (acts : List ActD) (w : World) (a b c : Nat) (A B : DSt) (l : List ByteArray) (v : Value) (s13 : Value) (wr : World) : Prop :=
  ∃ k : Nat, k ≤ acts.length ∧ s13 = .int .i64 k ∧ ∃ C : DSt, C.safe = l ∧ C.wait.length ≤ k ∧ Live w (Star (dskA kD c C) (Star (rowA tStr 1 v l.length (strs l)) (Star (dskA kD a A) (Star (dskA kD b B) Emp)))) wr

set_option maxRecDepth 100000 in
set_option maxHeartbeats 4000000 in
theorem keeps_calls {acts : List ActD} {ao : Option Addr} {c : Nat} {w : World} (hS : Srcs w (.slice ao acts.length c) acts.length 4 (flatA acts)) (hok : ActsOk acts) (hreach : acts.length * 40 ≤ 140737488351232) :
    Calls Try.prog 8 #[.slice ao acts.length c] w fun e w' => e = .returned (.bool true) ∧ Fr Nob w w' := by
  obtain ⟨n, hn⟩ : ∃ n, n = acts.length := ⟨_, rfl⟩
  rw [← hn] at hreach ⊢
  have HS := Lib.hid hS
  have HO := Lib.hid hok
  have HN := Lib.hid hn
  have HR := Lib.hid hreach
  have hnl : n ≤ 9223372036854775807 := by omega
  have L0 := Live.start w
  clear hS hok hn hreach
  go_enter Try.func8, Try.ntmps8
  go_wp2_with fail
  refine (L0.calls loc_emp (shown_calls w)).mono ?_
  rintro e w1 ⟨rfl, L1⟩
  clear L0
  go_wp2_with fail
  refine (new_ok 48 w1 (by omega) (by omega)).mono ?_
  rintro e w2 ⟨a, rfl, hd, hf⟩
  have L2 : Live w (Star (dskA kD a (DSt.fresh 48)) Emp) w2 := L1.new loc_emp hf hd
  clear L1 hd hf
  go_wp2_with fail
  refine (new_ok 48 w2 (by omega) (by omega)).mono ?_
  rintro e w3 ⟨b, rfl, hd, hf⟩
  have L3 : Live w (Star (dskA kD a (DSt.fresh 48)) (Star (dskA kD b (DSt.fresh 48)) Emp)) w3 := (L2.new (loc_star (loc_dsk _ _ _) loc_emp) hf hd).map (fun U h => by
    have h1 := star_assoc' h
    exact star_assoc (star_left h1 (fun _ h => star_swap h)))
  clear L2 hd hf
  go_wp2_with fail
  go_loopw [8] (fun s8 wr => KeepRel acts w a b s8 wr) (fun s8 _ => n - (intOf s8).toNat)
  case atStart => exact ⟨0, Nat.zero_le _, rfl, _, rfl, L3⟩
  case round =>
    obtain ⟨k, hk, rfl, D, hD0, hL⟩ := hrel
    rw [← HN.out] at hk
    have hD := Lib.hid hD0
    have hinv : KeepInv k D := by
      have := keep_run (n := 0) (D := DSt.fresh 48) ⟨rfl, rfl, Nat.le_refl _⟩ (acts.take k)
      rwa [← hD0, List.length_take, Nat.min_eq_left (by rw [← HN.out]; exact hk), Nat.zero_add] at this
    have HI := Lib.hid hinv
    clear hD0 hinv
    by_cases hlt : k < n
    · obtain ⟨x, hx⟩ : ∃ x, acts[k]? = some x := ⟨_, List.getElem?_eq_getElem (by rw [← HN.out]; exact hlt)⟩
      obtain ⟨g, off, rfl, hg, q0, q1, q2, q3⟩ := act_cells HS.out hL.fr hx
      have HXX := Lib.hid (HO.out x (List.mem_of_getElem? hx))
      have hb1 : (D.wait.length + 1) * 24 ≤ 140737488355328 := by have := HI.out.waits; have := HR.out; omega
      have HB1 := Lib.hid hb1
      have HT := Lib.hid hx
      have fin : ∀ (z : Int) (D' : DSt) (wr : World), z = (k : Int) + 1 → keepStep D x = D' → Live w (Star (dskA kD a D') (Star (dskA kD b D') Emp)) wr → KeepRel acts w a b (.int .i64 z) wr := by
        intro z D' wr hz h1 h2
        exact ⟨k + 1, by rw [← HN.out]; exact hlt, by rw [hz]; rfl, D', by rw [keepRun_take HT.out, ← hD.out, h1], h2⟩
      have FIN := Lib.hid fin
      clear hx hb1 fin
      by_cases k2 : x.kind = 2
      · have t2 : (x.kind == 2) = true := by rw [beq_iff_eq]; exact k2
        have t3 : (x.kind == 3) = false := by rw [beq_eq_false_iff_ne]; omega
        have K2 := Lib.hid k2
        clear k2
        obtain ⟨S4, h4⟩ := hL.first
        by_cases h64 : D.wait.length < 64
        · have h64' : ((D.wait.length : Nat) : Int) < 64 := by omega
          have hs : keepStep D x = D.write x.i (secOf x.s) := by unfold keepStep; rw [if_pos ⟨K2.out, h64⟩]
          have HS2 := Lib.hid hs
          clear hs h64
          go_wp2_with fail
          refine (waiting_calls h4).mono ?_
          rintro e w4 ⟨rfl, rfl⟩
          clear h4
          go_wp2_with fail
          have L6 := hL.drew (loc_star (loc_dsk _ _ _) (loc_star (loc_dsk _ _ _) loc_emp))
          clear hL
          go_region_held3 (fun w' => w'.cell? ⟨g, off + k * 4 + 1, none⟩ = some (.int .i64 x.i) ∧ w'.cell? ⟨g, off + k * 4 + 2, none⟩ = some (.string x.s))
            (first | go_keep | exact ⟨c17, c27⟩ | exact ⟨c18, c28⟩)
            (first
              | (go_at_call 11; refine (L6.calls (loc_star (loc_dsk _ _ _) (loc_star (loc_dsk _ _ _) loc_emp)) (sector_calls x.s _ (by have := HXX.out.2; omega))).mono ?_; rintro e w7 ⟨rfl, L7⟩; obtain ⟨_, c17, c27, _⟩ := act_cells2 HS.out L7.fr HT.out)
              | (go_at_call 12; refine (L7.op ((d_write x.i (secOf x.s) HB1.out).left (loc_star (loc_dsk _ _ _) loc_emp))).mono ?_; rintro e w8 ⟨rfl, L8⟩; obtain ⟨_, c18, c28, _⟩ := act_cells2 HS.out L8.fr HT.out))
          clear L6 L7 c17 c27 q0 q1 q2 q3
          go_wp2_with fail
          have L9 := L8.drew (loc_star (loc_dsk _ _ _) (loc_star (loc_dsk _ _ _) loc_emp))
          clear L8
          go_region_held3 (fun w' => w'.cell? ⟨g, off + k * 4 + 1, none⟩ = some (.int .i64 x.i) ∧ w'.cell? ⟨g, off + k * 4 + 2, none⟩ = some (.string x.s))
            (first | go_keep | exact ⟨c18, c28⟩ | exact ⟨c19, c29⟩ | exact ⟨c1t, c2t⟩)
            (first
              | (go_at_call 11; refine (L9.calls (loc_star (loc_dsk _ _ _) (loc_star (loc_dsk _ _ _) loc_emp)) (sector_calls x.s _ (by have := HXX.out.2; omega))).mono ?_; rintro e w10 ⟨rfl, L10⟩; obtain ⟨_, c19, c29, _⟩ := act_cells2 HS.out L10.fr HT.out)
              | (go_at_call 12; refine (L10.op (((d_write x.i (secOf x.s) HB1.out).left loc_emp).right (loc_dsk _ _ _))).mono ?_; rintro e w11 ⟨rfl, L11⟩; obtain ⟨_, c1t, c2t, _⟩ := act_cells2 HS.out L11.fr HT.out))
          clear L9 L10 c18 c28 c19 c29
          obtain ⟨p0, _, _, _⟩ := act_cells2 HS.out L11.fr HT.out
          go_wp2_with fail
          go_roundw
          case rel => exact FIN.out _ _ _ (by omega) HS2.out L11
          case measure => simp [intOf]; omega
        · have h64' : ¬ ((D.wait.length : Nat) : Int) < 64 := by omega
          have hs : keepStep D x = D := by unfold keepStep; rw [if_neg (fun h => h64 h.2), if_neg (by have := K2.out; omega)]
          have HS2 := Lib.hid hs
          clear hs h64
          go_wp2_with fail
          refine (waiting_calls h4).mono ?_
          rintro e w4 ⟨rfl, rfl⟩
          clear h4
          go_wp2_with fail
          go_roundw
          case rel => exact FIN.out _ _ _ (by omega) HS2.out hL
          case measure => simp [intOf]; omega
      · have t2 : (x.kind == 2) = false := by rw [beq_eq_false_iff_ne]; exact k2
        by_cases k3 : x.kind = 3
        · have t3 : (x.kind == 3) = true := by rw [beq_iff_eq]; exact k3
          have hs : keepStep D x = D.flush := by unfold keepStep; rw [if_neg (fun h => k2 h.1), if_pos k3]
          have HS2 := Lib.hid hs
          clear hs k2 k3
          go_wp2_with fail
          refine (hL.op ((d_flush (by have := HB1.out; omega)).left (loc_star (loc_dsk _ _ _) loc_emp))).mono ?_
          rintro e w6 ⟨rfl, L6⟩
          clear hL
          go_wp2_with fail
          refine (L6.op (((d_flush (by have := HB1.out; omega)).left loc_emp).right (loc_dsk _ _ _))).mono ?_
          rintro e w7 ⟨rfl, L7⟩
          clear L6
          go_wp2_with fail
          go_roundw
          case rel => exact FIN.out _ _ _ (by omega) HS2.out L7
          case measure => simp [intOf]; omega
        · have t3 : (x.kind == 3) = false := by rw [beq_eq_false_iff_ne]; exact k3
          have hs : keepStep D x = D := by unfold keepStep; rw [if_neg (fun h => k2 h.1), if_neg k3]
          have HS2 := Lib.hid hs
          clear hs k2 k3
          go_wp2_with fail
          go_roundw
          case rel => exact FIN.out _ _ _ (by omega) HS2.out hL
          case measure => simp [intOf]; omega
    · obtain rfl : k = n := by omega
      have hb1 : D.wait.length * 24 ≤ 140737488355328 := by have := HI.out.waits; have := HR.out; omega
      have HB1 := Lib.hid hb1
      clear hb1
      obtain ⟨S4, h4⟩ := hL.first
      go_wp2_with fail
      refine (image_calls h4).mono ?_
      rintro e w5 ⟨v5, rfl, hrow5, hnew5, hf5⟩
      obtain ⟨ao5, c5, rfl⟩ := row_any hrow5
      have hok : Hid (D.Ok) := by obtain ⟨_, _, _, _, h⟩ := h4; exact h.ok
      have HIM : Hid (ImageOk D.safe) := ⟨hok.out.lo48, hok.out.len, hok.out.size⟩
      have L5 : Live w (Star (rowA tStr 1 (.slice ao5 D.safe.length c5) D.safe.length (strs D.safe)) (Star (dskA kD a D) (Star (dskA kD b D) Emp))) w5 :=
        hL.new (loc_star (loc_dsk _ _ _) (loc_star (loc_dsk _ _ _) loc_emp)) hf5 ⟨hrow5, fun k hk => .inr ⟨hnew5 k hk, (hrow5.lt k hk).2⟩⟩
      clear hL h4 hrow5 hnew5 hf5
      go_wp2_with fail
      refine (L5.op (((d_crash 18446744073709551615 (by decide) (by have := HB1.out; omega)).left (loc_star (loc_dsk _ _ _) loc_emp)).right (loc_row _ _ _ _ _))).mono ?_
      rintro e w6 ⟨rfl, L6⟩
      clear L5
      go_wp2_with fail
      refine (L6.op ((((d_flush HB1.out).left loc_emp).right (loc_dsk _ _ _)).right (loc_row _ _ _ _ _))).mono ?_
      rintro e w7 ⟨rfl, L7⟩
      clear L6
      generalize D.flushE = ef
      obtain ⟨A, hA⟩ : ∃ A, A = D.crash 18446744073709551615 := ⟨_, rfl⟩
      obtain ⟨B, hB⟩ : ∃ B, B = D.flush := ⟨_, rfl⟩
      have hAB : A.safe = B.safe := by rw [hA, hB]; exact crash_all HI.out.off HI.out.power
      have hA0 : A.wait.length = 0 := by rw [hA]; rfl
      rw [← hA, ← hB] at L7
      have HAB := Lib.hid hAB
      have HA0 := Lib.hid hA0
      clear hA hB hAB hA0
      go_wp2_with fail
      obtain ⟨T8, S8, S9, h8, ⟨S10, S11, h9, _⟩, _⟩ := L7.second
      refine (image_calls h8).mono ?_
      rintro e w8 ⟨v8, rfl, hrow8, hnew8, hf8⟩
      have hokA : Hid (A.Ok) := by obtain ⟨_, _, _, _, h⟩ := h8; exact h.ok
      obtain ⟨ao8, c8, rfl⟩ := row_any hrow8
      have L8 := L7.keep (loc_star (loc_row _ _ _ _ _) (loc_star (loc_dsk _ _ _) (loc_star (loc_dsk _ _ _) loc_emp))) hf8
      clear L7 h8 h9
      go_wp2_with fail
      obtain ⟨T8, S8, S9, h8, ⟨S10, S11, h9, _⟩, _⟩ := L8.second
      refine (image_calls h9).mono ?_
      rintro e w9 ⟨v9, rfl, hrow9, hnew9, hf9⟩
      rw [← HAB.out] at hrow9
      obtain ⟨ao9, c9, rfl⟩ := row_any hrow9
      have L9 := L8.keep (loc_star (loc_row _ _ _ _ _) (loc_star (loc_dsk _ _ _) (loc_star (loc_dsk _ _ _) loc_emp))) hf9
      have hr89 := row_fr hrow8 hf9 (fun _ _ h => h)
      clear L8 h8 h9 hrow8 hf8 hf9 hnew8 hnew9
      go_wp2_with fail
      refine (L9.calls (loc_star (loc_row _ _ _ _ _) (loc_star (loc_dsk _ _ _) (loc_star (loc_dsk _ _ _) loc_emp))) (same_self (by have := hokA.out.len; omega) (row_srcs hr89 (strs_one _)) (row_srcs hrow9 (strs_one _)))).mono ?_
      rintro e w10 ⟨rfl, L10⟩
      clear L9 hr89 hrow9
      go_wp2_with fail
      obtain ⟨S10, h10⟩ := L10.first
      refine (of_calls (row_srcs h10.1 (strs_one _)) (by have := hok.out.len; omega)).mono ?_
      rintro e w11 ⟨hf11, hd⟩
      rcases hd with ⟨hno, _⟩ | ⟨_, cc, rfl, hd⟩
      · exact absurd HIM.out hno
      have L11 := L10.new (B := dskA kD cc (DSt.of D.safe)) (loc_star (loc_row _ _ _ _ _) (loc_star (loc_dsk _ _ _) (loc_star (loc_dsk _ _ _) loc_emp))) hf11 hd
      clear L10 h10 hf11 hd
      obtain ⟨l, hl⟩ : ∃ l, l = D.safe := ⟨_, rfl⟩
      rw [← hl] at L11 HIM
      rw [show D.safe.length = l.length by rw [hl]]
      clear hl hok HI HB1 hD
      go_wp2_with fail
      go_loopw [13] (fun s13 wr => StillRel acts w a b cc A B l (.slice ao5 l.length c5) s13 wr) (fun s13 _ => k - (intOf s13).toNat)
      case atStart => exact ⟨0, Nat.zero_le _, rfl, DSt.of l, rfl, Nat.le_refl _, L11⟩
      case round =>
        obtain ⟨j, hj, rfl, C, hC, hCw, hL⟩ := hrel
        rw [← HN.out] at hj
        have hb1 : (C.wait.length + 1) * 24 ≤ 140737488355328 := by have := HR.out; omega
        have HB1 := Lib.hid hb1
        have HCW := Lib.hid hCw
        have HC := Lib.hid hC
        clear L11 hb1 hCw hC
        by_cases hjl : j < k
        · obtain ⟨x, hx⟩ : ∃ x, acts[j]? = some x := ⟨_, List.getElem?_eq_getElem (by rw [← HN.out]; exact hjl)⟩
          obtain ⟨g, off, rfl, hg, q0, q1, q2, q3⟩ := act_cells HS.out hL.fr hx
          have HXX := Lib.hid (HO.out x (List.mem_of_getElem? hx))
          have HT := Lib.hid hx
          clear hx
          by_cases k2 : x.kind = 2
          · have t2 : (x.kind == 2) = true := by rw [beq_iff_eq]; exact k2
            clear k2
            go_wp2_with fail
            have L6 := hL.drew (loc_star (loc_dsk _ _ _) (loc_star (loc_row _ _ _ _ _) (loc_star (loc_dsk _ _ _) (loc_star (loc_dsk _ _ _) loc_emp))))
            clear hL
            go_region_held3 (fun w' => w'.cell? ⟨g, off + j * 4 + 1, none⟩ = some (.int .i64 x.i) ∧ w'.cell? ⟨g, off + j * 4 + 2, none⟩ = some (.string x.s))
              (first | go_keep | exact ⟨c17, c27⟩ | exact ⟨c18, c28⟩)
              (first
                | (go_at_call 11; refine (L6.calls (loc_star (loc_dsk _ _ _) (loc_star (loc_row _ _ _ _ _) (loc_star (loc_dsk _ _ _) (loc_star (loc_dsk _ _ _) loc_emp)))) (sector_calls x.s _ (by have := HXX.out.2; omega))).mono ?_; rintro e w7 ⟨rfl, L7⟩; obtain ⟨_, c17, c27, _⟩ := act_cells2 HS.out L7.fr HT.out)
                | (go_at_call 12; refine (L7.op ((d_write x.i (secOf x.s) HB1.out).left (loc_star (loc_row _ _ _ _ _) (loc_star (loc_dsk _ _ _) (loc_star (loc_dsk _ _ _) loc_emp))))).mono ?_; rintro e w8 ⟨rfl, L8⟩; obtain ⟨_, c18, c28, _⟩ := act_cells2 HS.out L8.fr HT.out))
            clear L6 L7 c17 c27 c18 c28 q0 q1 q2 q3
            go_wp2_with fail
            go_roundw
            case rel =>
              have hk := write_keeps C x.i (secOf x.s)
              exact ⟨j + 1, by rw [← HN.out]; exact hjl, by go_num, C.write x.i (secOf x.s), by rw [write_safe]; exact HC.out, by have := HCW.out; omega, L8⟩
            case measure => simp [intOf]; omega
          · have t2 : (x.kind == 2) = false := by rw [beq_eq_false_iff_ne]; exact k2
            clear k2
            go_wp2_with fail
            go_roundw
            case rel => exact ⟨j + 1, by rw [← HN.out]; exact hjl, by go_num, C, HC.out, by have := HCW.out; omega, hL⟩
            case measure => simp [intOf]; omega
        · obtain rfl : j = k := by omega
          go_wp2_with fail
          refine (hL.op ((d_crash 0 (by decide) (by have := HCW.out; omega)).left (loc_star (loc_row _ _ _ _ _) (loc_star (loc_dsk _ _ _) (loc_star (loc_dsk _ _ _) loc_emp))))).mono ?_
          rintro e w12 ⟨rfl, L12⟩
          clear hL
          obtain ⟨E, hE⟩ : ∃ E, E = C.crash 0 := ⟨_, rfl⟩
          have hEl : E.safe = l := by rw [hE, crash_none]; exact HC.out
          rw [← hE] at L12
          clear hE
          go_wp2_with fail
          obtain ⟨S12, h12⟩ := L12.first
          refine (image_calls h12).mono ?_
          rintro e w13 ⟨v13, rfl, hrow13, hnew13, hf13⟩
          rw [hEl] at hrow13
          obtain ⟨ao13, c13, rfl⟩ := row_any hrow13
          have L13 := L12.keep (loc_star (loc_dsk _ _ _) (loc_star (loc_row _ _ _ _ _) (loc_star (loc_dsk _ _ _) (loc_star (loc_dsk _ _ _) loc_emp)))) hf13
          clear L12 h12 hnew13 hf13 hEl
          go_wp2_with fail
          obtain ⟨T14, S14, S15, h14, _⟩ := L13.second
          refine (L13.calls (loc_star (loc_dsk _ _ _) (loc_star (loc_row _ _ _ _ _) (loc_star (loc_dsk _ _ _) (loc_star (loc_dsk _ _ _) loc_emp)))) (same_self (by have := HIM.out.2.1; omega) (row_srcs hrow13 (strs_one _)) (row_srcs h14.1 (strs_one _)))).mono ?_
          rintro e w14 ⟨rfl, L14⟩
          clear L13 hrow13 h14
          go_wp2_with fail
          obtain ⟨T15, S15, S16, _, ⟨S17, S18, h15, _⟩, _⟩ := L14.second
          have HF := Lib.hid L14.fr
          refine (waiting_calls h15).mono ?_
          rw [HA0.out]
          rintro e w15 ⟨rfl, rfl⟩
          clear L14 h15
          go_wp2_with fail
          go_ret
          exact ⟨rfl, HF.out⟩
end Go.Proofs.Ytimhjhiipghdhaa
