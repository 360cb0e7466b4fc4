/- DiskPlays, walked. -/
import Derived.Test.YtimhjhiipghdhaaLawE
namespace Go.Proofs.Ytimhjhiipghdhaa
open Go.RowKit

def doRun (D : DSt) (l : List ActD) : DSt := l.foldl doStep D
theorem doRun_keeps (D : DSt) (l : List ActD) : (doRun D l).safe.length = D.safe.length ∧ (doRun D l).wait.length ≤ D.wait.length + l.length := by
  induction l generalizing D with
  | nil => exact ⟨rfl, Nat.le_refl _⟩
  | cons a l ih =>
    have h1 := ih (doStep D a)
    have h2 := doStep_keeps D a
    show (doRun (doStep D a) l).safe.length = _ ∧ (doRun (doStep D a) l).wait.length ≤ _
    rw [List.length_cons]
    omega
theorem doRun_take {D : DSt} {acts : List ActD} {k : Nat} {a : ActD} (h : acts[k]? = some a) : doRun D (acts.take (k + 1)) = doStep (doRun D (acts.take k)) a := by
  unfold doRun
  rw [List.take_add_one, h]
  simp

theorem same_self {a b : Option Addr} {c d : Nat} {l : List ByteArray} {w : World} (hn : l.length ≤ 9223372036854775807) (ha : Srcs w (.slice a l.length c) l.length 1 (strs l)) (hb : Srcs w (.slice b l.length d) l.length 1 (strs l)) :
    Calls Try.prog 20 #[.slice a l.length c, .slice b l.length d] w fun e w' => e = .returned (.bool true) ∧ Fr Nob w w' :=
  (same_calls rfl hn ha hb).mono fun _ _ h => ⟨by rw [h.1]; simp, h.2⟩

def PlayRel (acts : List ActD) (n0 : Nat) (w : World) (b r : Nat) (s10 : Value) (wr : World) : Prop :=
  ∃ k : Nat, k ≤ acts.length ∧ s10 = .int .i64 k ∧ ∃ D, D = doRun (DSt.fresh n0) (acts.take k) ∧ Live w (Star (dskA kD b D) (Star (dskA kR r D) Emp)) wr

set_option maxRecDepth 100000 in
set_option maxHeartbeats 4000000 in
theorem plays_calls {acts : List ActD} {ao : Option Addr} {c : Nat} {w : World} (hS : Srcs w (.slice ao acts.length c) acts.length 4 (flatA acts)) (hok : ActsOk acts) (hreach : acts.length * 40 ≤ 140737488351232) (hai : ∀ a ∈ acts, a.i ≤ 9223372036854775807) (m : Int) :
    Calls Try.prog 5 #[.int .i64 m, .slice ao acts.length c] w fun e w' => e = .returned (.bool true) ∧ Fr Nob w w' := by
  obtain ⟨n, hn⟩ : ∃ n, n = acts.length := ⟨_, rfl⟩
  rw [← hn] at hreach ⊢
  have HS := Lib.hid hS
  have HO := Lib.hid hok
  have HI := Lib.hid hai
  have HN := Lib.hid hn
  have HR := Lib.hid hreach
  have hnl : n ≤ 9223372036854775807 := by omega
  have L0 := Live.start w
  clear hS hok hn hreach hai
  go_enter Try.func5, Try.ntmps5
  go_wp2_with fail
  refine (L0.calls loc_emp (shown_calls w)).mono ?_
  rintro e w1 ⟨rfl, L1⟩
  clear L0
  go_wp2_with fail
  by_cases hm : m < 48 ∨ 544 < m
  · refine (new_arg m w1 hm).mono ?_
    rintro e w2 ⟨rfl, rfl⟩
    go_wp2_with fail
    refine (takes_no m w1 hm).mono ?_
    rintro e w2 ⟨rfl, rfl⟩
    have HF := Lib.hid L1.fr
    clear L1 hm
    go_wp2_with fail
    go_ret
    exact ⟨rfl, HF.out⟩
  obtain ⟨m, rfl⟩ := Int.eq_ofNat_of_zero_le (show 0 ≤ m by omega)
  have hm1 : 48 ≤ m := by omega
  have hm2 : m ≤ 544 := by omega
  clear hm
  refine (new_ok m w1 hm1 hm2).mono ?_
  rintro e w2 ⟨b, rfl, hd, hf⟩
  have L2 : Live w (Star (dskA kD b (DSt.fresh m)) Emp) w2 := L1.new loc_emp hf hd
  clear L1 hd hf
  go_wp2_with fail
  refine (takes_yes m w2 hm1 hm2).mono ?_
  rintro e w3 ⟨rfl, rfl⟩
  go_wp2_with fail
  refine (rnew_ok m w2 hm1 hm2).mono ?_
  rintro e w3 ⟨r, rfl, hd, hf⟩
  have L3 : Live w (Star (dskA kD b (DSt.fresh m)) (Star (dskA kR r (DSt.fresh m)) Emp)) w3 := (L2.new (loc_star (loc_dsk _ _ _) loc_emp) hf hd).map (fun U h => by
    have h1 := star_assoc' h
    exact star_assoc (star_left h1 (fun _ h => star_swap h)))
  clear L2 hd hf
  go_wp2_with fail
  go_loopw [10] (fun s10 wr => PlayRel acts m w b r s10 wr) (fun s10 _ => n - (intOf s10).toNat)
  case atStart => exact ⟨0, Nat.zero_le _, rfl, _, rfl, L3⟩
  case round =>
    obtain ⟨k, hk, rfl, D, hD0, hL⟩ := hrel
    rw [← HN.out] at hk
    have hD := Lib.hid hD0
    have hkeep := doRun_keeps (DSt.fresh m) (acts.take k)
    rw [← hD0, List.length_take, Nat.min_eq_left (by rw [← HN.out]; exact hk), show (DSt.fresh m).safe.length = m by simp [DSt.fresh], show (DSt.fresh m).wait.length = 0 from rfl, Nat.zero_add] at hkeep
    clear hD0
    by_cases hlt : k < n
    · obtain ⟨a, ha⟩ : ∃ a, acts[k]? = some a := ⟨_, List.getElem?_eq_getElem (by rw [← HN.out]; exact hlt)⟩
      obtain ⟨g, off, rfl, hg, q0, q1, q2, q3⟩ := act_cells HS.out hL.fr ha
      have HAA := Lib.hid (HO.out a (List.mem_of_getElem? ha))
      have HAI := Lib.hid (HI.out a (List.mem_of_getElem? ha))
      have hb1 : (D.wait.length + 1) * 24 ≤ 140737488355328 := by have := HR.out; omega
      have HB1 := Lib.hid hb1
      have HT := Lib.hid ha
      have HK := Lib.hid hkeep
      clear ha hb1 hkeep
      go_wp2_with fail
      refine (does_calls a hL loc_emp HAA.out HAI.out HB1.out).mono ?_
      rintro e w5 ⟨rfl, L5⟩
      clear hL q0 q1 q2 q3
      have hk2 := doStep_keeps D a
      have hD2 : doStep D a = doRun (DSt.fresh m) (acts.take (k + 1)) := by rw [doRun_take HT.out, ← hD.out]
      obtain ⟨E, hE⟩ : ∃ E, E = doStep D a := ⟨_, rfl⟩
      rw [← hE] at hk2 hD2 L5
      have hEl : E.wait.length ≤ 9223372036854775807 := by have := HB1.out; omega
      have HEl := Lib.hid hEl
      have HD2 := Lib.hid hD2
      clear hE hk2 hD2 hEl
      go_wp2_with fail
      obtain ⟨S5, h5⟩ := L5.first
      refine (waiting_calls h5).mono ?_
      rintro e w6 ⟨rfl, rfl⟩
      clear h5
      go_wp2_with fail
      obtain ⟨U5, S6, _, h6, _⟩ := L5.second
      obtain ⟨bs, c5, sp, wv, h6⟩ := h6
      obtain ⟨ao5, cw5, rfl⟩ := row_any h6.wait
      have c0 := h6.head.cell (j := 0) rfl
      have c1 := h6.head.cell (j := 1) rfl
      have lr := h6.head.lt
      have HSR := Lib.hid (h6.srcs c5)
      have HEL := Lib.hid h6.ok.len
      clear h6
      have L6 := L5.drew (loc_star (loc_dsk _ _ _) (loc_star (loc_dsk _ _ _) loc_emp))
      have F6 : Fr Nob w5 w5.drew := (Fr.refl _ _).drew
      go_region_held3 (fun w' => w'.cell? ⟨r, 0, none⟩ = some (.slice (some ⟨bs, 0, none⟩) E.safe.length c5))
        (first | go_keep | exact c07 | exact c08)
        (first
          | (go_at_call 21; obtain ⟨S7, h7⟩ := L6.first; refine (image_calls h7).mono ?_; clear h7; rintro e w7 ⟨v, rfl, hrow, hnew, hf7⟩; obtain ⟨ao7, c7, rfl⟩ := row_any hrow; have F7 := F6.trans hf7; have c07 := F7.cell c0 (fun h => h); clear hnew)
          | (go_at_call 20; refine (same_self (by have := HEL.out; omega) (row_srcs hrow (strs_one _)) (HSR.out.fr F7 (fun _ _ _ _ h => h))).mono ?_; rintro e w8 ⟨rfl, hf8⟩; have F8 := F7.trans hf8; have c08 := F8.cell c0 (fun h => h)))
      have c18 := F8.cell c1 (fun h => h)
      have L8 := L5.keep (loc_star (loc_dsk _ _ _) (loc_star (loc_dsk _ _ _) loc_emp)) F8
      clear L5 L6 hf7 hf8 hrow F6 F7 F8 c07 c0 c1
      go_wp2_with fail
      go_roundw
      case rel => exact ⟨k + 1, by rw [← HN.out]; omega, by go_num, E, HD2.out, L8⟩
      case measure => simp [intOf]; omega
    · obtain rfl : k = n := by omega
      have hsl : D.safe.length = m := hkeep.1
      obtain ⟨S5, h5⟩ := hL.first
      have HF := Lib.hid hL.fr
      clear hL hkeep
      go_wp2_with fail
      refine (sectors_calls h5).mono ?_
      rintro e w6 ⟨rfl, rfl⟩
      rw [hsl]
      clear h5
      go_wp2_with fail
      go_ret
      exact ⟨rfl, HF.out⟩
end Go.Proofs.Ytimhjhiipghdhaa
