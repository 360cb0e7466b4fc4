/- The log's acts: sealed, install. -/
import Derived.Test.YtchilnjocnkodaaGreatLgB
import Derived.Test.YtchilnjocnkodaaGreatKeeps
namespace Go.Proofs.YtchilnjocnkodaaGreat
open Go.RowKit

theorem one_actsE (D : DSt) (a : DAct) : D.actsE [a] = D.actE a := by
  show (if D.actE a = 0 then 0 else D.actE a) = _
  split
  · rename_i h; exact h.symm
  · rfl
theorem one_acts (D : DSt) (a : DAct) : D.acts [a] = D.act1 a := by
  show (if D.actE a = 0 then D.act1 a else D.act1 a) = _
  split <;> rfl

section
variable {S0 : Nat → Prop} {w0 w : World} {d : Nat} {D : DSt} {B : Asr}

set_option maxRecDepth 100000 in
set_option maxHeartbeats 2000000 in
theorem sealed_calls {l : List Nat} {v : Value} (hL : Lv S0 w0 (Star (dskA kD d D) (Star (rowA tIntE 1 v l.length (nums l)) B)) w) (hB : Loc B) (hl : l.length ≤ 30) (hh : ∀ h ∈ l, h < 65536) (hw : (D.wait.length + 1) * 24 ≤ 140737488355328) :
    Calls Tryz.prog 55 #[.pointer (some ⟨d, 0, none⟩), v] w fun e w' => e = .returned (.int .i64 (D.actsE (sealA l))) ∧ Lv S0 w0 (Star (dskA kD d (D.acts (sealA l))) (Star (rowA tIntE 1 v l.length (nums l)) B)) w' := by
  obtain ⟨T, S1, S2, h1, _⟩ := hL.second
  obtain ⟨ao, c, rfl⟩ := row_any h1.1
  have HH := Lib.hid hh
  have HL := Lib.hid hl
  have HW := Lib.hid hw
  have hF := flush_keeps D
  have hW := write_keeps D.flush 1 (headP l)
  have e1 : D.actsE (sealA l) = if D.flushE = 0 then (if D.flush.writeE 1 (headP l) = 0 then (D.flush.write 1 (headP l)).flushE else D.flush.writeE 1 (headP l)) else D.flushE := by
    show D.actsE (.flush :: .write 1 (headP l) :: [.flush]) = _
    rw [DSt.actsE_cons, DSt.actsE_cons, one_actsE]
    rfl
  have e2 : D.acts (sealA l) = if D.flushE = 0 then (if D.flush.writeE 1 (headP l) = 0 then (D.flush.write 1 (headP l)).flush else D.flush.write 1 (headP l)) else D.flush := by
    show D.acts (.flush :: .write 1 (headP l) :: [.flush]) = _
    rw [DSt.acts_cons, DSt.acts_cons, one_acts]
    rfl
  have E1 := Lib.hid e1
  have E2 := Lib.hid e2
  clear hh hl hw h1 e1 e2
  have hB' : Loc (Star (rowA tIntE 1 (.slice ao l.length c) l.length (nums l)) B) := loc_star (loc_row _ _ _ _ _) hB
  go_enter Tryz.func55, Tryz.ntmps55
  go_wp2_with fail
  refine (hL.op ((d_flush (by have := HW.out; omega)).left hB')).mono ?_
  rintro e w1 ⟨rfl, L1⟩
  clear hL
  by_cases hE : D.flushE = 0
  · rw [if_pos hE] at E1 E2
    have hE' : (D.flushE == 0) = true := by rw [beq_iff_eq]; exact hE
    clear hE
    go_wp2_with fail
    obtain ⟨T, S1, S2, h1, _⟩ := L1.second
    refine (L1.calls (loc_star (loc_dsk _ _ _) hB') (head_calls (row_srcs h1.1 (nums_one _)) HL.out HH.out)).mono ?_
    rintro e w2 ⟨rfl, L2⟩
    clear L1 h1
    go_wp2_with fail
    refine (L2.op ((d_write 1 (headP l) (by have := HW.out; omega)).left hB')).mono ?_
    rintro e w3 ⟨rfl, L3⟩
    clear L2
    by_cases hE : D.flush.writeE 1 (headP l) = 0
    · rw [if_pos hE] at E1 E2
      have hE'' : (D.flush.writeE 1 (headP l) == 0) = true := by rw [beq_iff_eq]; exact hE
      clear hE
      go_wp2_with fail
      refine (L3.op ((d_flush (by have := HW.out; omega)).left hB')).mono ?_
      rintro e w4 ⟨rfl, L4⟩
      clear L3
      go_wp2_with fail
      go_ret
      exact ⟨(by rw [E1.out]; try rfl), by rw [E2.out]; exact L4⟩
    · rw [if_neg hE] at E1 E2
      have hE'' : (D.flush.writeE 1 (headP l) == 0) = false := by rw [beq_eq_false_iff_ne]; exact hE
      clear hE
      go_wp2_with fail
      go_ret
      exact ⟨(by rw [E1.out]; try rfl), by rw [E2.out]; exact L3⟩
  · rw [if_neg hE] at E1 E2
    have hE' : (D.flushE == 0) = false := by rw [beq_eq_false_iff_ne]; exact hE
    clear hE
    go_wp2_with fail
    go_ret
    exact ⟨(by rw [E1.out]; try rfl), by rw [E2.out]; exact L1⟩

/-- The acts that write the first k home. -/
def homeA (l : Stg) : List DAct := l.map fun x => .write (32 + x.1) x.2
theorem installA_eq (l : Stg) : installA l = homeA l ++ sealA [] := rfl
theorem homeA_take {l : Stg} {k : Nat} {x : Nat × ByteArray} (h : l[k]? = some x) : homeA (l.take (k + 1)) = homeA (l.take k) ++ [.write (32 + x.1) x.2] := by
  unfold homeA
  rw [List.take_add_one, h]
  simp
theorem acts_snoc {D : DSt} {l : List DAct} (a : DAct) (h : D.actsE l = 0) : D.acts (l ++ [a]) = (D.acts l).act1 a ∧ D.actsE (l ++ [a]) = (D.acts l).actE a := by
  rw [DSt.acts_append, DSt.actsE_append, if_pos h, if_pos h, one_acts, one_actsE]
  exact ⟨rfl, rfl⟩
theorem homeA_wait (D : DSt) (l : Stg) : (D.acts (homeA l)).wait.length ≤ D.wait.length + l.length := by
  induction l generalizing D with
  | nil => exact Nat.le_refl _
  | cons x l ih =>
    show (if D.actE _ = 0 then (D.act1 _).acts (homeA l) else D.act1 _).wait.length ≤ _
    have h1 := (write_keeps D ((32 + x.1 : Nat) : Int) x.2).2
    split
    · refine Nat.le_trans (ih _) ?_
      show (D.write _ _).wait.length + _ ≤ _
      rw [List.length_cons]
      omega
    · refine Nat.le_trans h1 ?_
      rw [List.length_cons]
      omega
/-- An error on the way ends it. -/
theorem acts_stop {D : DSt} {l k : List DAct} (h : D.actsE l ≠ 0) : D.acts (l ++ k) = D.acts l ∧ D.actsE (l ++ k) = D.actsE l := by
  rw [DSt.acts_append, DSt.actsE_append, if_neg h, if_neg h]
  exact ⟨rfl, rfl⟩

set_option maxRecDepth 100000 in
set_option maxHeartbeats 2000000 in
/-- 'from' answers the k-th home sector's bytes, whatever has been written home. -/
theorem install_calls {l : Stg} {v : Value} {g : Nat} {caps : Array Value} (eg : ∀ args w, (callFunc g args).run Tryz.prog w = .ok (.enter g args) w)
    (hL : Lv S0 w0 (Star (dskA kD d D) (Star (rowA tIntE 1 v l.length (nums (keys l))) B)) w) (hB : Loc B) (hl : l.length ≤ 30) (hh : ∀ x ∈ l, x.1 < 65536) (hw : (D.wait.length + 31) * 24 ≤ 140737488355328)
    (hfrom : ∀ (k : Nat) (x : Nat × ByteArray) (wr : World), l[k]? = some x → D.actsE (homeA (l.take k)) = 0 → Lv S0 w0 (Star (dskA kD d (D.acts (homeA (l.take k)))) (Star (rowA tIntE 1 v l.length (nums (keys l))) B)) wr →
      Calls Tryz.prog g (#[.int .i64 (k : Int)] ++ caps) wr fun e w' => e = .returned (.tuple #[.string x.2, .int .i64 0]) ∧ Fr Nob wr w') :
    Calls Tryz.prog 31 #[.pointer (some ⟨d, 0, none⟩), v, .func (.func g) #[] caps] w fun e w' => e = .returned (.int .i64 (D.actsE (installA l))) ∧ Lv S0 w0 (Star (dskA kD d (D.acts (installA l))) (Star (rowA tIntE 1 v l.length (nums (keys l))) B)) w' := by
  obtain ⟨T, S1, S2, h1, _⟩ := hL.second
  obtain ⟨ao, c, rfl⟩ := row_any h1.1
  have HF := Lib.hid hfrom
  have HH := Lib.hid hh
  obtain ⟨n, hn⟩ : ∃ n, n = l.length := ⟨_, rfl⟩
  have HN := Lib.hid hn
  have HL := Lib.hid hl
  have HW := Lib.hid hw
  rw [← hn] at hL ⊢
  clear hfrom hn hl hw h1 hh
  have hnl : n ≤ 30 := by rw [HN.out]; exact HL.out
  have hB' : Loc (Star (rowA tIntE 1 (.slice ao n c) n (nums (keys l))) B) := loc_star (loc_row _ _ _ _ _) hB
  go_enter Tryz.func31, Tryz.ntmps31
  go_wp2_with fail
  go_loopw [13] (fun i wr => ∃ k : Nat, k ≤ n ∧ i = .int .i64 k ∧ D.actsE (homeA (l.take k)) = 0 ∧ Lv S0 w0 (Star (dskA kD d (D.acts (homeA (l.take k)))) (Star (rowA tIntE 1 (.slice ao n c) n (nums (keys l))) B)) wr) (fun i _ => n - (intOf i).toNat)
  case atStart => exact ⟨0, Nat.zero_le _, rfl, rfl, hL⟩
  case round =>
    obtain ⟨k, hk, rfl, hE0, hLk⟩ := hrel
    have HE0 := Lib.hid hE0
    clear hL hE0
    by_cases hlt : k < n
    · obtain ⟨x, hx⟩ : ∃ x, l[k]? = some x := ⟨_, List.getElem?_eq_getElem (by rw [← HN.out]; exact hlt)⟩
      obtain ⟨T, S1, S2, h1, _⟩ := hLk.second
      obtain ⟨ga, off, rfl, cx⟩ := (row_srcs h1.1 (nums_one _)).at (j := k) (u := .int .i64 (x.1 : Int)) (by simp [nums, keys, hx])
      have hF := HF.out k x wr hx HE0.out (by rw [← HN.out]; exact hLk)
      have hwk := homeA_wait D (l.take k)
      rw [List.length_take] at hwk
      have hx6 := HH.out x (List.mem_of_getElem? hx)
      obtain ⟨q1, q2⟩ := acts_snoc (.write (32 + x.1) x.2) HE0.out
      rw [← homeA_take hx] at q1 q2
      have hcast : ((32 + x.1 : Nat) : Int) = 32 + (x.1 : Int) := by omega
      have q1 : D.acts (homeA (l.take (k + 1))) = (D.acts (homeA (l.take k))).write (32 + (x.1 : Int)) x.2 := by rw [q1, ← hcast]; rfl
      have q2 : D.actsE (homeA (l.take (k + 1))) = (D.acts (homeA (l.take k))).writeE (32 + (x.1 : Int)) x.2 := by rw [q2, ← hcast]; rfl
      have HQ1 := Lib.hid q1
      have HQ2 := Lib.hid q2
      have HX := Lib.hid hx
      have HFF := Lib.hid hF
      clear h1 hx hF q1 q2 hcast
      go_wp2_with fail
      refine HFF.out.mono ?_
      rintro e w2 ⟨rfl, hf2⟩
      have L2 := hLk.keep (loc_star (loc_dsk _ _ _) hB') hf2
      clear hLk hf2 cx
      go_wp2_with fail
      refine (L2.op ((d_write (32 + (x.1 : Int)) x.2 (by have := HW.out; have := HL.out; omega)).left hB')).mono ?_
      rintro e w3 ⟨rfl, L3⟩
      clear L2
      by_cases hE : (D.acts (homeA (l.take k))).writeE (32 + (x.1 : Int)) x.2 = 0
      · have hE' : ((D.acts (homeA (l.take k))).writeE (32 + (x.1 : Int)) x.2 == 0) = true := by rw [beq_iff_eq]; exact hE
        have HEE := Lib.hid hE
        clear hE
        go_wp2_with fail
        go_roundw
        case rel =>
          refine ⟨k + 1, hlt, by go_num, HQ2.out.trans HEE.out, ?_⟩
          rw [HQ1.out]
          exact L3
        case measure => simp [intOf]; omega
      · have hE' : ((D.acts (homeA (l.take k))).writeE (32 + (x.1 : Int)) x.2 == 0) = false := by rw [beq_eq_false_iff_ne]; exact hE
        have hstop := acts_stop (D := D) (l := homeA (l.take (k + 1))) (k := homeA (l.drop (k + 1)) ++ sealA []) (by rw [HQ2.out]; exact hE)
        have hall : homeA (l.take (k + 1)) ++ (homeA (l.drop (k + 1)) ++ sealA []) = installA l := by
          rw [← List.append_assoc, installA_eq]
          congr 1
          unfold homeA
          rw [← List.map_append, List.take_append_drop]
        rw [hall] at hstop
        have HS := Lib.hid hstop
        clear hE hstop hall
        go_wp2_with fail
        go_ret
        exact ⟨(by rw [HS.out.2, HQ2.out]; try rfl), by rw [HS.out.1, HQ1.out]; exact L3⟩
    · obtain rfl : k = n := by omega
      rw [show l.take k = l by rw [HN.out, List.take_length]] at HE0 hLk
      have hwk := homeA_wait D l
      have hnil : Lv S0 w0 (Star (dskA kD d (D.acts (homeA l))) (Star (rowA tIntE 1 (.slice none 0 0) ([] : List Nat).length (nums [])) (Star (rowA tIntE 1 (.slice ao k c) k (nums (keys l))) B))) wr := hLk.map (fun U h => by
        obtain ⟨S, T, h1, h2, h3, h4, h5⟩ := h
        exact ⟨S, T, h1, ⟨fun _ => False, T, ⟨World.ownsRow_nil _ _ _ _, fun k hk => by cases hk⟩, h2, fun _ h => h.elim, fun _ h => h.elim, fun _ h => h⟩, h3, h4, h5⟩)
      have hall : installA l = homeA l ++ sealA [] := rfl
      have HI : Hid (D.actsE (installA l) = (D.acts (homeA l)).actsE (sealA []) ∧ D.acts (installA l) = (D.acts (homeA l)).acts (sealA [])) := by
        rw [hall, DSt.acts_append, DSt.actsE_append, if_pos HE0.out, if_pos HE0.out]
        exact ⟨rfl, rfl⟩
      clear hLk hall
      go_wp2_with fail
      refine (sealed_calls hnil hB' (by simp) (by simp) (by have := HW.out; have := HL.out; omega)).mono ?_
      rintro e w3 ⟨rfl, L3⟩
      clear hnil
      go_wp2_with fail
      go_ret
      refine ⟨(by rw [HI.out.1]; try rfl), ?_⟩
      rw [HI.out.2]
      exact L3.map (fun U h => by
        obtain ⟨S, T, h1, ⟨S', T', _, h2, _, _, h6⟩, h3, h4, h5⟩ := h
        exact ⟨S, T', h1, h2, fun k hk ht => h3 k hk (h6 k ht), h4, fun k hk => h5 k (h6 k hk)⟩)
end
end Go.Proofs.YtchilnjocnkodaaGreat
