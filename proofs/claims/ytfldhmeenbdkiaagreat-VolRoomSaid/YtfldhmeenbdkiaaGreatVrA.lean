/- VolRoom: its walk. -/
import Derived.Test.YtfldhmeenbdkiaaGreatVxB
import Derived.Test.YtfldhmeenbdkiaaGreatVrT
import Derived.Test.YtfldhmeenbdkiaaGreatVyD
namespace Go.Proofs.YtfldhmeenbdkiaaGreat
open Go.RowKit

theorem takes_le38 {n : Nat} (h : n ≤ 2368) : takesP n ≤ 38 := by unfold takesP sectorsP; split <;> omega
theorem sumT_le {A : Nat → Node} (h : ∀ n, n < 32 → (A n).data.length ≤ 2368) : ∀ j, j ≤ 32 → sumT A j ≤ 38 * j
  | 0, _ => Nat.zero_le _
  | j + 1, hj => by
    have := sumT_le h j (by omega)
    have := takes_le38 (h j (by omega))
    unfold sumT
    omega
theorem sumT_succ (A : Nat → Node) (j : Nat) : sumT A (j + 1) = sumT A j + takesP (A j).data.length := rfl
theorem afind_at (A : Nat → Node) {j : Nat} (h : j < 32) : afindE A j = if (A j).kind = 0 then 5 else 0 := by
  unfold afindE
  rw [if_neg (by omega), Int.toNat_natCast]

theorem VW.alloc {S0 : Nat → Prop} {w0 w : World} {v b d m c : Nat} {A : Nat → Node} {B : Asr} (h : VW c S0 w0 v b d m A B w) (hB : Loc B) (o : Obj) : VW c S0 w0 v b d m A B (w.alloc o) := by
  obtain ⟨L, H, X, h1, h2, h3⟩ := h
  exact ⟨L, H, X, Lv.alloc h1 (VV.loc hB) o, h2, h3⟩
theorem VW.drew {S0 : Nat → Prop} {w0 w : World} {v b d m c : Nat} {A : Nat → Node} {B : Asr} (h : VW c S0 w0 v b d m A B w) (hB : Loc B) : VW c S0 w0 v b d m A B w.drew := by
  obtain ⟨L, H, X, h1, h2, h3⟩ := h
  exact ⟨L, H, X, Lv.drew h1 (VV.loc hB), h2, h3⟩
set_option maxRecDepth 100000 in
set_option maxHeartbeats 16000000 in
theorem room_calls {w : World} {ao : Option Addr} {cap : Nat} {acts : List ActV} (sectors : Int) (hs : Srcs w (.slice ao acts.length cap) acts.length 5 (flatV acts)) (hb : acts.length * 48 ≤ 140737488351232) :
    Calls Tryz.prog 3 #[.int .i64 sectors, .slice ao acts.length cap] w fun e w' => e = .returned (.bool true) ∧ Fr Nob w w' := by
  have LS : Lv Nob w Emp w := (Live.start w).lv
  have HH := Lib.hid (Lv.calls LS loc_emp (vshown_calls w))
  have HS := Lib.hid hs
  clear hs LS
  obtain ⟨n, hn⟩ : ∃ n, n = acts.length := ⟨_, rfl⟩
  rw [← hn]
  have HNN := Lib.hid hn
  have HBN : Hid (n ≤ 140737488351232) := Lib.hid (by omega)
  clear hn hb
  go_enter Tryz.func3, Tryz.ntmps3
  go_wp2_with fail
  refine HH.out.mono ?_
  rintro e w0 ⟨rfl, LS⟩
  have HF := Lib.hid (fresh_calls loc_emp LS sectors)
  clear LS HH
  go_wp2_with fail
  refine HF.out.mono ?_
  rintro e w1 ⟨d, b, rfl, L0⟩
  have HFO := Lib.hid (w_format L0 loc_emp)
  clear L0 HF
  obtain ⟨m, hm⟩ : ∃ m, m = freshN sectors - 32 := ⟨_, rfl⟩
  rw [← hm] at HFO
  clear hm
  go_wp2_with fail
  obtain ⟨c, HFO⟩ := HFO.out
  refine HFO.mono ?_
  rintro e w2 ⟨v, rfl, L1⟩
  have HC := Lib.hid (w_commit L1 loc_emp)
  clear L1 HFO
  go_wp2_with fail
  refine HC.out.mono ?_
  rintro e w3 ⟨rfl, L2⟩
  have HL := Lib.hid L2
  clear L2 HC
  go_wp2_with fail
  go_loopw [10] (fun s10 wr => ∃ (k c : Nat) (A : Nat → Node), k ≤ n ∧ s10 = .int .i64 k ∧ VW c Nob w v b d m A Emp wr) (fun s10 _ => n - (intOf s10).toNat)
  case atStart => exact ⟨0, 0, _, Nat.zero_le _, rfl, HL.out⟩
  case round =>
    clear HL
    obtain ⟨k, c, A, hk, rfl, hV⟩ := hrel
    have HL := Lib.hid hV
    clear hV
    by_cases hlt : k < n
    · have hlt' : k < acts.length := by have := HNN.out; omega
      obtain ⟨a, ha⟩ : ∃ a, acts[k]? = some a := ⟨_, List.getElem?_eq_getElem hlt'⟩
      obtain ⟨g, off, rfl, q0, q1, q2, q3, q4⟩ := actv_cells HS.out HL.out.lv ha
      clear ha
      by_cases k1 : a.kind = 1
      · have t1 : (a.kind == 1) = true := by simpa using k1
        obtain ⟨full, r, c1, HK⟩ := w_new_any HL.out loc_emp a.n
        have HK := Lib.hid HK
        clear HL k1
        go_wp2_with fail
        refine HK.out.mono ?_
        rintro e w4 ⟨rfl, L4⟩
        obtain ⟨A1, hA1⟩ : ∃ A1, A1 = anew A full a.n := ⟨_, rfl⟩
        rw [← hA1] at L4
        have HL1 := Lib.hid L4
        clear L4 HK hA1 q0 q1 q2 q3 q4
        have hj : (k % 2 = 0) ∨ (k % 2 = 1) := by omega
        rcases hj with hj | hj
        · have hm0 : (k : Int).tmod 2 = 0 := by rw [Int.tmod_eq_emod_of_nonneg (by omega)]; omega
          clear hj
          have HC := Lib.hid (w_commit HL1.out loc_emp)
          clear HL1
          go_wp2_with fail
          refine HC.out.mono ?_
          rintro e w5 ⟨rfl, L5⟩
          have HL1 := Lib.hid (L5.more (Nat.zero_le c1))
          clear L5 HC
          obtain ⟨hsum, _, hm512, hlen⟩ := HL1.out.all
          have HSUM := Lib.hid hsum
          have HLEN := Lib.hid hlen
          have HM := Lib.hid hm512
          clear hsum hlen hm512
          go_wp2_with fail
          go_loopw [11, 12] (fun s11 s12 wr => ∃ j : Nat, j ≤ 32 ∧ s11 = .int .i64 (sumT A1 j : Nat) ∧ s12 = .int .i64 j ∧ VW c1 Nob w v b d m A1 Emp wr) (fun _ s12 _ => 32 - (intOf s12).toNat)
          case atStart => exact ⟨0, Nat.zero_le _, rfl, rfl, HL1.out⟩
          case round =>
            clear HL1
            obtain ⟨j, hj32, rfl, rfl, hV⟩ := hrel
            have HL2 := Lib.hid hV
            clear hV
            by_cases hjl : j < 32
            · have hS := w_stat HL2.out loc_emp j
              rw [afind_at A1 hjl, Int.toNat_natCast] at hS
              have hss := sumT_succ A1 j
              by_cases hk0 : (A1 j).kind = 0
              · rw [if_pos hk0, if_neg (by decide), show nstatV Node.free = .agg #[.int .i64 0, .int .i64 0, .int .i64 0] from rfl] at hS
                rw [HL2.out.nofree hjl hk0, show takesP 0 = 0 from rfl, Nat.add_zero] at hss
                have HSS := Lib.hid hss
                have HST := Lib.hid hS
                clear hS hss HL2 hk0
                go_wp2_with fail
                refine HST.out.mono ?_
                rintro e w8 ⟨rfl, L8⟩
                have HL8 := Lib.hid (VW.alloc L8 loc_emp (.cells #[.int .i64 0, .int .i64 0, .int .i64 0] tStat))
                clear L8 HST
                go_wp2_with fail
                go_roundw
                case rel => exact ⟨j + 1, hjl, by rw [HSS.out] <;> rfl, by go_num, HL8.out⟩
                case measure => simp [intOf]; omega
              · rw [if_neg hk0, if_pos rfl, show nstatV (A1 j) = .agg #[.int .i64 (A1 j).kind, .int .i64 (A1 j).links, .int .i64 (A1 j).data.length] from rfl] at hS
                have hle := sumT_le HLEN.out (j + 1) hjl
                have hl2 := HLEN.out j hjl
                have htk := takes_le38 hl2
                have wr1 : IntKind.i64.wrap ((sumT A1 j : Int) + (takesP (A1 j).data.length : Int)) = ((sumT A1 (j + 1) : Nat) : Int) := by rw [hss, IntKind.wrap_i64] <;> omega
                have HTK := Lib.hid (rtakes_calls (A1 j).data.length (by omega))
                have HST := Lib.hid hS
                clear hS hss HL2 hk0 hle hl2 htk
                generalize (A1 j).data.length = len at *
                generalize (A1 j).kind = kd at *
                generalize (A1 j).links = lk at *
                go_wp2_with fail
                refine HST.out.mono ?_
                rintro e w8 ⟨rfl, L8⟩
                have HL8 := Lib.hid (VW.alloc L8 loc_emp (.cells #[.int .i64 kd, .int .i64 lk, .int .i64 len] tStat))
                clear L8 HST
                go_wp2_with fail
                refine (HTK.out _).mono ?_
                rintro e w9 ⟨rfl, rfl⟩
                go_wp2_with fail
                go_roundw
                case rel => exact ⟨j + 1, hjl, rfl, by go_num, HL8.out⟩
                case measure => simp [intOf]; omega
            · obtain rfl : j = 32 := by omega
              have HR := Lib.hid (w_room HL2.out loc_emp)
              have hsum := HSUM.out
              have hm512 := HM.out
              have hm16 := HL2.out.all.2.1
              obtain ⟨S, hS⟩ : ∃ S, S = sumT A1 32 := ⟨_, rfl⟩
              obtain ⟨R, hR⟩ : ∃ R, R = aroom m A1 := ⟨_, rfl⟩
              rw [← hR] at HR
              rw [← hS, ← hR] at hsum
              rw [← hS]
              have wr1 : IntKind.i64.wrap ((S : Int) + (R : Int)) = ((m - 9 : Nat) : Int) := by rw [IntKind.wrap_i64] <;> omega
              have wr2 : IntKind.i64.wrap ((m : Int) - 9) = ((m - 9 : Nat) : Int) := by rw [IntKind.wrap_i64] <;> omega
              clear hsum hS hR hm16 hm512 HL2
              generalize m - 9 = m9 at *
              go_wp2_with fail
              refine HR.out.mono ?_
              rintro e w8 ⟨rfl, L8⟩
              have HHM := Lib.hid L8.home
              have wk : IntKind.i64.wrap ((k : Int) + 1) = (k : Int) + 1 := by have := HBN.out; rw [IntKind.wrap_i64] <;> omega
              have HL8 := Lib.hid L8
              clear L8 HR
              go_wp2_with fail
              refine HHM.out.mono ?_
              rintro e w9 ⟨rfl, rfl⟩
              go_wp2_with fail
              go_roundw
              case rel => first | exact ⟨k + 1, c1, A1, hlt, by go_num, HL8.out⟩ | ((repeat apply Exists.intro); exact ⟨⟨_, _, _, hlt, by go_num, HL8.out⟩, rfl⟩)
              case measure => simp [intOf]; omega
        · have hm0 : (k : Int).tmod 2 = 1 := by rw [Int.tmod_eq_emod_of_nonneg (by omega)]; omega
          clear hj
          obtain ⟨hsum, _, hm512, hlen⟩ := HL1.out.all
          have HSUM := Lib.hid hsum
          have HLEN := Lib.hid hlen
          have HM := Lib.hid hm512
          clear hsum hlen hm512
          go_wp2_with fail
          go_loopw [11, 12] (fun s11 s12 wr => ∃ j : Nat, j ≤ 32 ∧ s11 = .int .i64 (sumT A1 j : Nat) ∧ s12 = .int .i64 j ∧ VW c1 Nob w v b d m A1 Emp wr) (fun _ s12 _ => 32 - (intOf s12).toNat)
          case atStart => exact ⟨0, Nat.zero_le _, rfl, rfl, HL1.out⟩
          case round =>
            clear HL1
            obtain ⟨j, hj32, rfl, rfl, hV⟩ := hrel
            have HL2 := Lib.hid hV
            clear hV
            by_cases hjl : j < 32
            · have hS := w_stat HL2.out loc_emp j
              rw [afind_at A1 hjl, Int.toNat_natCast] at hS
              have hss := sumT_succ A1 j
              by_cases hk0 : (A1 j).kind = 0
              · rw [if_pos hk0, if_neg (by decide), show nstatV Node.free = .agg #[.int .i64 0, .int .i64 0, .int .i64 0] from rfl] at hS
                rw [HL2.out.nofree hjl hk0, show takesP 0 = 0 from rfl, Nat.add_zero] at hss
                have HSS := Lib.hid hss
                have HST := Lib.hid hS
                clear hS hss HL2 hk0
                go_wp2_with fail
                refine HST.out.mono ?_
                rintro e w8 ⟨rfl, L8⟩
                have HL8 := Lib.hid (VW.alloc L8 loc_emp (.cells #[.int .i64 0, .int .i64 0, .int .i64 0] tStat))
                clear L8 HST
                go_wp2_with fail
                go_roundw
                case rel => exact ⟨j + 1, hjl, by rw [HSS.out] <;> rfl, by go_num, HL8.out⟩
                case measure => simp [intOf]; omega
              · rw [if_neg hk0, if_pos rfl, show nstatV (A1 j) = .agg #[.int .i64 (A1 j).kind, .int .i64 (A1 j).links, .int .i64 (A1 j).data.length] from rfl] at hS
                have hle := sumT_le HLEN.out (j + 1) hjl
                have hl2 := HLEN.out j hjl
                have htk := takes_le38 hl2
                have wr1 : IntKind.i64.wrap ((sumT A1 j : Int) + (takesP (A1 j).data.length : Int)) = ((sumT A1 (j + 1) : Nat) : Int) := by rw [hss, IntKind.wrap_i64] <;> omega
                have HTK := Lib.hid (rtakes_calls (A1 j).data.length (by omega))
                have HST := Lib.hid hS
                clear hS hss HL2 hk0 hle hl2 htk
                generalize (A1 j).data.length = len at *
                generalize (A1 j).kind = kd at *
                generalize (A1 j).links = lk at *
                go_wp2_with fail
                refine HST.out.mono ?_
                rintro e w8 ⟨rfl, L8⟩
                have HL8 := Lib.hid (VW.alloc L8 loc_emp (.cells #[.int .i64 kd, .int .i64 lk, .int .i64 len] tStat))
                clear L8 HST
                go_wp2_with fail
                refine (HTK.out _).mono ?_
                rintro e w9 ⟨rfl, rfl⟩
                go_wp2_with fail
                go_roundw
                case rel => exact ⟨j + 1, hjl, rfl, by go_num, HL8.out⟩
                case measure => simp [intOf]; omega
            · obtain rfl : j = 32 := by omega
              have HR := Lib.hid (w_room HL2.out loc_emp)
              have hsum := HSUM.out
              have hm512 := HM.out
              have hm16 := HL2.out.all.2.1
              obtain ⟨S, hS⟩ : ∃ S, S = sumT A1 32 := ⟨_, rfl⟩
              obtain ⟨R, hR⟩ : ∃ R, R = aroom m A1 := ⟨_, rfl⟩
              rw [← hR] at HR
              rw [← hS, ← hR] at hsum
              rw [← hS]
              have wr1 : IntKind.i64.wrap ((S : Int) + (R : Int)) = ((m - 9 : Nat) : Int) := by rw [IntKind.wrap_i64] <;> omega
              have wr2 : IntKind.i64.wrap ((m : Int) - 9) = ((m - 9 : Nat) : Int) := by rw [IntKind.wrap_i64] <;> omega
              clear hsum hS hR hm16 hm512 HL2
              generalize m - 9 = m9 at *
              go_wp2_with fail
              refine HR.out.mono ?_
              rintro e w8 ⟨rfl, L8⟩
              have HHM := Lib.hid L8.home
              have wk : IntKind.i64.wrap ((k : Int) + 1) = (k : Int) + 1 := by have := HBN.out; rw [IntKind.wrap_i64] <;> omega
              have HL8 := Lib.hid L8
              clear L8 HR
              go_wp2_with fail
              refine HHM.out.mono ?_
              rintro e w9 ⟨rfl, rfl⟩
              go_wp2_with fail
              go_roundw
              case rel => first | exact ⟨k + 1, c1, A1, hlt, by go_num, HL8.out⟩ | ((repeat apply Exists.intro); exact ⟨⟨_, _, _, hlt, by go_num, HL8.out⟩, rfl⟩)
              case measure => simp [intOf]; omega
      · have t1 : (a.kind == 1) = false := by rw [beq_eq_false_iff_ne]; exact k1
        clear k1
        by_cases k2 : a.kind = 2
        · have t2 : (a.kind == 2) = true := by simpa using k2
          obtain ⟨full, c1, _, HK⟩ := w_free HL.out loc_emp a.n
          have HK := Lib.hid HK
          clear HL k2
          go_wp2_with fail
          refine HK.out.mono ?_
          rintro e w4 ⟨rfl, L4⟩
          obtain ⟨A1, hA1⟩ : ∃ A1, A1 = afree A full a.n := ⟨_, rfl⟩
          rw [← hA1] at L4
          have HL1 := Lib.hid L4
          clear L4 HK hA1 q0 q1 q2 q3 q4
          have hj : (k % 2 = 0) ∨ (k % 2 = 1) := by omega
          rcases hj with hj | hj
          · have hm0 : (k : Int).tmod 2 = 0 := by rw [Int.tmod_eq_emod_of_nonneg (by omega)]; omega
            clear hj
            have HC := Lib.hid (w_commit HL1.out loc_emp)
            clear HL1
            go_wp2_with fail
            refine HC.out.mono ?_
            rintro e w5 ⟨rfl, L5⟩
            have HL1 := Lib.hid (L5.more (Nat.zero_le c1))
            clear L5 HC
            obtain ⟨hsum, _, hm512, hlen⟩ := HL1.out.all
            have HSUM := Lib.hid hsum
            have HLEN := Lib.hid hlen
            have HM := Lib.hid hm512
            clear hsum hlen hm512
            go_wp2_with fail
            go_loopw [11, 12] (fun s11 s12 wr => ∃ j : Nat, j ≤ 32 ∧ s11 = .int .i64 (sumT A1 j : Nat) ∧ s12 = .int .i64 j ∧ VW c1 Nob w v b d m A1 Emp wr) (fun _ s12 _ => 32 - (intOf s12).toNat)
            case atStart => exact ⟨0, Nat.zero_le _, rfl, rfl, HL1.out⟩
            case round =>
              clear HL1
              obtain ⟨j, hj32, rfl, rfl, hV⟩ := hrel
              have HL2 := Lib.hid hV
              clear hV
              by_cases hjl : j < 32
              · have hS := w_stat HL2.out loc_emp j
                rw [afind_at A1 hjl, Int.toNat_natCast] at hS
                have hss := sumT_succ A1 j
                by_cases hk0 : (A1 j).kind = 0
                · rw [if_pos hk0, if_neg (by decide), show nstatV Node.free = .agg #[.int .i64 0, .int .i64 0, .int .i64 0] from rfl] at hS
                  rw [HL2.out.nofree hjl hk0, show takesP 0 = 0 from rfl, Nat.add_zero] at hss
                  have HSS := Lib.hid hss
                  have HST := Lib.hid hS
                  clear hS hss HL2 hk0
                  go_wp2_with fail
                  refine HST.out.mono ?_
                  rintro e w8 ⟨rfl, L8⟩
                  have HL8 := Lib.hid (VW.alloc L8 loc_emp (.cells #[.int .i64 0, .int .i64 0, .int .i64 0] tStat))
                  clear L8 HST
                  go_wp2_with fail
                  go_roundw
                  case rel => exact ⟨j + 1, hjl, by rw [HSS.out] <;> rfl, by go_num, HL8.out⟩
                  case measure => simp [intOf]; omega
                · rw [if_neg hk0, if_pos rfl, show nstatV (A1 j) = .agg #[.int .i64 (A1 j).kind, .int .i64 (A1 j).links, .int .i64 (A1 j).data.length] from rfl] at hS
                  have hle := sumT_le HLEN.out (j + 1) hjl
                  have hl2 := HLEN.out j hjl
                  have htk := takes_le38 hl2
                  have wr1 : IntKind.i64.wrap ((sumT A1 j : Int) + (takesP (A1 j).data.length : Int)) = ((sumT A1 (j + 1) : Nat) : Int) := by rw [hss, IntKind.wrap_i64] <;> omega
                  have HTK := Lib.hid (rtakes_calls (A1 j).data.length (by omega))
                  have HST := Lib.hid hS
                  clear hS hss HL2 hk0 hle hl2 htk
                  generalize (A1 j).data.length = len at *
                  generalize (A1 j).kind = kd at *
                  generalize (A1 j).links = lk at *
                  go_wp2_with fail
                  refine HST.out.mono ?_
                  rintro e w8 ⟨rfl, L8⟩
                  have HL8 := Lib.hid (VW.alloc L8 loc_emp (.cells #[.int .i64 kd, .int .i64 lk, .int .i64 len] tStat))
                  clear L8 HST
                  go_wp2_with fail
                  refine (HTK.out _).mono ?_
                  rintro e w9 ⟨rfl, rfl⟩
                  go_wp2_with fail
                  go_roundw
                  case rel => exact ⟨j + 1, hjl, rfl, by go_num, HL8.out⟩
                  case measure => simp [intOf]; omega
              · obtain rfl : j = 32 := by omega
                have HR := Lib.hid (w_room HL2.out loc_emp)
                have hsum := HSUM.out
                have hm512 := HM.out
                have hm16 := HL2.out.all.2.1
                obtain ⟨S, hS⟩ : ∃ S, S = sumT A1 32 := ⟨_, rfl⟩
                obtain ⟨R, hR⟩ : ∃ R, R = aroom m A1 := ⟨_, rfl⟩
                rw [← hR] at HR
                rw [← hS, ← hR] at hsum
                rw [← hS]
                have wr1 : IntKind.i64.wrap ((S : Int) + (R : Int)) = ((m - 9 : Nat) : Int) := by rw [IntKind.wrap_i64] <;> omega
                have wr2 : IntKind.i64.wrap ((m : Int) - 9) = ((m - 9 : Nat) : Int) := by rw [IntKind.wrap_i64] <;> omega
                clear hsum hS hR hm16 hm512 HL2
                generalize m - 9 = m9 at *
                go_wp2_with fail
                refine HR.out.mono ?_
                rintro e w8 ⟨rfl, L8⟩
                have HHM := Lib.hid L8.home
                have wk : IntKind.i64.wrap ((k : Int) + 1) = (k : Int) + 1 := by have := HBN.out; rw [IntKind.wrap_i64] <;> omega
                have HL8 := Lib.hid L8
                clear L8 HR
                go_wp2_with fail
                refine HHM.out.mono ?_
                rintro e w9 ⟨rfl, rfl⟩
                go_wp2_with fail
                go_roundw
                case rel => first | exact ⟨k + 1, c1, A1, hlt, by go_num, HL8.out⟩ | ((repeat apply Exists.intro); exact ⟨⟨_, _, _, hlt, by go_num, HL8.out⟩, rfl⟩)
                case measure => simp [intOf]; omega
          · have hm0 : (k : Int).tmod 2 = 1 := by rw [Int.tmod_eq_emod_of_nonneg (by omega)]; omega
            clear hj
            obtain ⟨hsum, _, hm512, hlen⟩ := HL1.out.all
            have HSUM := Lib.hid hsum
            have HLEN := Lib.hid hlen
            have HM := Lib.hid hm512
            clear hsum hlen hm512
            go_wp2_with fail
            go_loopw [11, 12] (fun s11 s12 wr => ∃ j : Nat, j ≤ 32 ∧ s11 = .int .i64 (sumT A1 j : Nat) ∧ s12 = .int .i64 j ∧ VW c1 Nob w v b d m A1 Emp wr) (fun _ s12 _ => 32 - (intOf s12).toNat)
            case atStart => exact ⟨0, Nat.zero_le _, rfl, rfl, HL1.out⟩
            case round =>
              clear HL1
              obtain ⟨j, hj32, rfl, rfl, hV⟩ := hrel
              have HL2 := Lib.hid hV
              clear hV
              by_cases hjl : j < 32
              · have hS := w_stat HL2.out loc_emp j
                rw [afind_at A1 hjl, Int.toNat_natCast] at hS
                have hss := sumT_succ A1 j
                by_cases hk0 : (A1 j).kind = 0
                · rw [if_pos hk0, if_neg (by decide), show nstatV Node.free = .agg #[.int .i64 0, .int .i64 0, .int .i64 0] from rfl] at hS
                  rw [HL2.out.nofree hjl hk0, show takesP 0 = 0 from rfl, Nat.add_zero] at hss
                  have HSS := Lib.hid hss
                  have HST := Lib.hid hS
                  clear hS hss HL2 hk0
                  go_wp2_with fail
                  refine HST.out.mono ?_
                  rintro e w8 ⟨rfl, L8⟩
                  have HL8 := Lib.hid (VW.alloc L8 loc_emp (.cells #[.int .i64 0, .int .i64 0, .int .i64 0] tStat))
                  clear L8 HST
                  go_wp2_with fail
                  go_roundw
                  case rel => exact ⟨j + 1, hjl, by rw [HSS.out] <;> rfl, by go_num, HL8.out⟩
                  case measure => simp [intOf]; omega
                · rw [if_neg hk0, if_pos rfl, show nstatV (A1 j) = .agg #[.int .i64 (A1 j).kind, .int .i64 (A1 j).links, .int .i64 (A1 j).data.length] from rfl] at hS
                  have hle := sumT_le HLEN.out (j + 1) hjl
                  have hl2 := HLEN.out j hjl
                  have htk := takes_le38 hl2
                  have wr1 : IntKind.i64.wrap ((sumT A1 j : Int) + (takesP (A1 j).data.length : Int)) = ((sumT A1 (j + 1) : Nat) : Int) := by rw [hss, IntKind.wrap_i64] <;> omega
                  have HTK := Lib.hid (rtakes_calls (A1 j).data.length (by omega))
                  have HST := Lib.hid hS
                  clear hS hss HL2 hk0 hle hl2 htk
                  generalize (A1 j).data.length = len at *
                  generalize (A1 j).kind = kd at *
                  generalize (A1 j).links = lk at *
                  go_wp2_with fail
                  refine HST.out.mono ?_
                  rintro e w8 ⟨rfl, L8⟩
                  have HL8 := Lib.hid (VW.alloc L8 loc_emp (.cells #[.int .i64 kd, .int .i64 lk, .int .i64 len] tStat))
                  clear L8 HST
                  go_wp2_with fail
                  refine (HTK.out _).mono ?_
                  rintro e w9 ⟨rfl, rfl⟩
                  go_wp2_with fail
                  go_roundw
                  case rel => exact ⟨j + 1, hjl, rfl, by go_num, HL8.out⟩
                  case measure => simp [intOf]; omega
              · obtain rfl : j = 32 := by omega
                have HR := Lib.hid (w_room HL2.out loc_emp)
                have hsum := HSUM.out
                have hm512 := HM.out
                have hm16 := HL2.out.all.2.1
                obtain ⟨S, hS⟩ : ∃ S, S = sumT A1 32 := ⟨_, rfl⟩
                obtain ⟨R, hR⟩ : ∃ R, R = aroom m A1 := ⟨_, rfl⟩
                rw [← hR] at HR
                rw [← hS, ← hR] at hsum
                rw [← hS]
                have wr1 : IntKind.i64.wrap ((S : Int) + (R : Int)) = ((m - 9 : Nat) : Int) := by rw [IntKind.wrap_i64] <;> omega
                have wr2 : IntKind.i64.wrap ((m : Int) - 9) = ((m - 9 : Nat) : Int) := by rw [IntKind.wrap_i64] <;> omega
                clear hsum hS hR hm16 hm512 HL2
                generalize m - 9 = m9 at *
                go_wp2_with fail
                refine HR.out.mono ?_
                rintro e w8 ⟨rfl, L8⟩
                have HHM := Lib.hid L8.home
                have wk : IntKind.i64.wrap ((k : Int) + 1) = (k : Int) + 1 := by have := HBN.out; rw [IntKind.wrap_i64] <;> omega
                have HL8 := Lib.hid L8
                clear L8 HR
                go_wp2_with fail
                refine HHM.out.mono ?_
                rintro e w9 ⟨rfl, rfl⟩
                go_wp2_with fail
                go_roundw
                case rel => first | exact ⟨k + 1, c1, A1, hlt, by go_num, HL8.out⟩ | ((repeat apply Exists.intro); exact ⟨⟨_, _, _, hlt, by go_num, HL8.out⟩, rfl⟩)
                case measure => simp [intOf]; omega
        · have t2 : (a.kind == 2) = false := by rw [beq_eq_false_iff_ne]; exact k2
          clear k2
          by_cases k6 : a.kind = 6
          · have t6 : (a.kind == 6) = true := by simpa using k6
            obtain ⟨full, c1, _, HK⟩ := w_write (VW.drew HL.out loc_emp) loc_emp a.n a.off a.s
            have HK := Lib.hid HK
            clear HL k6
            go_wp2_with fail
            refine wp_region_tail 16 (by kernel_rfl) (by kernel_rfl) ?_
            simp only [List.take_succ_cons, List.take_zero, List.drop_succ_cons, List.drop_zero]
            repeat still_step
            refine wpStill_nil ?_
            go_wp2_with fail
            refine HK.out.mono ?_
            rintro e w4 ⟨rfl, L4⟩
            obtain ⟨A1, hA1⟩ : ∃ A1, A1 = awrite m A full a.n a.off a.s := ⟨_, rfl⟩
            rw [← hA1] at L4
            have HL1 := Lib.hid L4
            clear L4 HK hA1 q0 q1 q2 q3 q4
            have hj : (k % 2 = 0) ∨ (k % 2 = 1) := by omega
            rcases hj with hj | hj
            · have hm0 : (k : Int).tmod 2 = 0 := by rw [Int.tmod_eq_emod_of_nonneg (by omega)]; omega
              clear hj
              have HC := Lib.hid (w_commit HL1.out loc_emp)
              clear HL1
              go_wp2_with fail
              refine HC.out.mono ?_
              rintro e w5 ⟨rfl, L5⟩
              have HL1 := Lib.hid (L5.more (Nat.zero_le c1))
              clear L5 HC
              obtain ⟨hsum, _, hm512, hlen⟩ := HL1.out.all
              have HSUM := Lib.hid hsum
              have HLEN := Lib.hid hlen
              have HM := Lib.hid hm512
              clear hsum hlen hm512
              go_wp2_with fail
              go_loopw [11, 12] (fun s11 s12 wr => ∃ j : Nat, j ≤ 32 ∧ s11 = .int .i64 (sumT A1 j : Nat) ∧ s12 = .int .i64 j ∧ VW c1 Nob w v b d m A1 Emp wr) (fun _ s12 _ => 32 - (intOf s12).toNat)
              case atStart => exact ⟨0, Nat.zero_le _, rfl, rfl, HL1.out⟩
              case round =>
                clear HL1
                obtain ⟨j, hj32, rfl, rfl, hV⟩ := hrel
                have HL2 := Lib.hid hV
                clear hV
                by_cases hjl : j < 32
                · have hS := w_stat HL2.out loc_emp j
                  rw [afind_at A1 hjl, Int.toNat_natCast] at hS
                  have hss := sumT_succ A1 j
                  by_cases hk0 : (A1 j).kind = 0
                  · rw [if_pos hk0, if_neg (by decide), show nstatV Node.free = .agg #[.int .i64 0, .int .i64 0, .int .i64 0] from rfl] at hS
                    rw [HL2.out.nofree hjl hk0, show takesP 0 = 0 from rfl, Nat.add_zero] at hss
                    have HSS := Lib.hid hss
                    have HST := Lib.hid hS
                    clear hS hss HL2 hk0
                    go_wp2_with fail
                    refine HST.out.mono ?_
                    rintro e w8 ⟨rfl, L8⟩
                    have HL8 := Lib.hid (VW.alloc L8 loc_emp (.cells #[.int .i64 0, .int .i64 0, .int .i64 0] tStat))
                    clear L8 HST
                    go_wp2_with fail
                    go_roundw
                    case rel => exact ⟨j + 1, hjl, by rw [HSS.out] <;> rfl, by go_num, HL8.out⟩
                    case measure => simp [intOf]; omega
                  · rw [if_neg hk0, if_pos rfl, show nstatV (A1 j) = .agg #[.int .i64 (A1 j).kind, .int .i64 (A1 j).links, .int .i64 (A1 j).data.length] from rfl] at hS
                    have hle := sumT_le HLEN.out (j + 1) hjl
                    have hl2 := HLEN.out j hjl
                    have htk := takes_le38 hl2
                    have wr1 : IntKind.i64.wrap ((sumT A1 j : Int) + (takesP (A1 j).data.length : Int)) = ((sumT A1 (j + 1) : Nat) : Int) := by rw [hss, IntKind.wrap_i64] <;> omega
                    have HTK := Lib.hid (rtakes_calls (A1 j).data.length (by omega))
                    have HST := Lib.hid hS
                    clear hS hss HL2 hk0 hle hl2 htk
                    generalize (A1 j).data.length = len at *
                    generalize (A1 j).kind = kd at *
                    generalize (A1 j).links = lk at *
                    go_wp2_with fail
                    refine HST.out.mono ?_
                    rintro e w8 ⟨rfl, L8⟩
                    have HL8 := Lib.hid (VW.alloc L8 loc_emp (.cells #[.int .i64 kd, .int .i64 lk, .int .i64 len] tStat))
                    clear L8 HST
                    go_wp2_with fail
                    refine (HTK.out _).mono ?_
                    rintro e w9 ⟨rfl, rfl⟩
                    go_wp2_with fail
                    go_roundw
                    case rel => exact ⟨j + 1, hjl, rfl, by go_num, HL8.out⟩
                    case measure => simp [intOf]; omega
                · obtain rfl : j = 32 := by omega
                  have HR := Lib.hid (w_room HL2.out loc_emp)
                  have hsum := HSUM.out
                  have hm512 := HM.out
                  have hm16 := HL2.out.all.2.1
                  obtain ⟨S, hS⟩ : ∃ S, S = sumT A1 32 := ⟨_, rfl⟩
                  obtain ⟨R, hR⟩ : ∃ R, R = aroom m A1 := ⟨_, rfl⟩
                  rw [← hR] at HR
                  rw [← hS, ← hR] at hsum
                  rw [← hS]
                  have wr1 : IntKind.i64.wrap ((S : Int) + (R : Int)) = ((m - 9 : Nat) : Int) := by rw [IntKind.wrap_i64] <;> omega
                  have wr2 : IntKind.i64.wrap ((m : Int) - 9) = ((m - 9 : Nat) : Int) := by rw [IntKind.wrap_i64] <;> omega
                  clear hsum hS hR hm16 hm512 HL2
                  generalize m - 9 = m9 at *
                  go_wp2_with fail
                  refine HR.out.mono ?_
                  rintro e w8 ⟨rfl, L8⟩
                  have HHM := Lib.hid L8.home
                  have wk : IntKind.i64.wrap ((k : Int) + 1) = (k : Int) + 1 := by have := HBN.out; rw [IntKind.wrap_i64] <;> omega
                  have HL8 := Lib.hid L8
                  clear L8 HR
                  go_wp2_with fail
                  refine HHM.out.mono ?_
                  rintro e w9 ⟨rfl, rfl⟩
                  go_wp2_with fail
                  go_roundw
                  case rel => first | exact ⟨k + 1, c1, A1, hlt, by go_num, HL8.out⟩ | ((repeat apply Exists.intro); exact ⟨⟨_, _, _, hlt, by go_num, HL8.out⟩, rfl⟩)
                  case measure => simp [intOf]; omega
            · have hm0 : (k : Int).tmod 2 = 1 := by rw [Int.tmod_eq_emod_of_nonneg (by omega)]; omega
              clear hj
              obtain ⟨hsum, _, hm512, hlen⟩ := HL1.out.all
              have HSUM := Lib.hid hsum
              have HLEN := Lib.hid hlen
              have HM := Lib.hid hm512
              clear hsum hlen hm512
              go_wp2_with fail
              go_loopw [11, 12] (fun s11 s12 wr => ∃ j : Nat, j ≤ 32 ∧ s11 = .int .i64 (sumT A1 j : Nat) ∧ s12 = .int .i64 j ∧ VW c1 Nob w v b d m A1 Emp wr) (fun _ s12 _ => 32 - (intOf s12).toNat)
              case atStart => exact ⟨0, Nat.zero_le _, rfl, rfl, HL1.out⟩
              case round =>
                clear HL1
                obtain ⟨j, hj32, rfl, rfl, hV⟩ := hrel
                have HL2 := Lib.hid hV
                clear hV
                by_cases hjl : j < 32
                · have hS := w_stat HL2.out loc_emp j
                  rw [afind_at A1 hjl, Int.toNat_natCast] at hS
                  have hss := sumT_succ A1 j
                  by_cases hk0 : (A1 j).kind = 0
                  · rw [if_pos hk0, if_neg (by decide), show nstatV Node.free = .agg #[.int .i64 0, .int .i64 0, .int .i64 0] from rfl] at hS
                    rw [HL2.out.nofree hjl hk0, show takesP 0 = 0 from rfl, Nat.add_zero] at hss
                    have HSS := Lib.hid hss
                    have HST := Lib.hid hS
                    clear hS hss HL2 hk0
                    go_wp2_with fail
                    refine HST.out.mono ?_
                    rintro e w8 ⟨rfl, L8⟩
                    have HL8 := Lib.hid (VW.alloc L8 loc_emp (.cells #[.int .i64 0, .int .i64 0, .int .i64 0] tStat))
                    clear L8 HST
                    go_wp2_with fail
                    go_roundw
                    case rel => exact ⟨j + 1, hjl, by rw [HSS.out] <;> rfl, by go_num, HL8.out⟩
                    case measure => simp [intOf]; omega
                  · rw [if_neg hk0, if_pos rfl, show nstatV (A1 j) = .agg #[.int .i64 (A1 j).kind, .int .i64 (A1 j).links, .int .i64 (A1 j).data.length] from rfl] at hS
                    have hle := sumT_le HLEN.out (j + 1) hjl
                    have hl2 := HLEN.out j hjl
                    have htk := takes_le38 hl2
                    have wr1 : IntKind.i64.wrap ((sumT A1 j : Int) + (takesP (A1 j).data.length : Int)) = ((sumT A1 (j + 1) : Nat) : Int) := by rw [hss, IntKind.wrap_i64] <;> omega
                    have HTK := Lib.hid (rtakes_calls (A1 j).data.length (by omega))
                    have HST := Lib.hid hS
                    clear hS hss HL2 hk0 hle hl2 htk
                    generalize (A1 j).data.length = len at *
                    generalize (A1 j).kind = kd at *
                    generalize (A1 j).links = lk at *
                    go_wp2_with fail
                    refine HST.out.mono ?_
                    rintro e w8 ⟨rfl, L8⟩
                    have HL8 := Lib.hid (VW.alloc L8 loc_emp (.cells #[.int .i64 kd, .int .i64 lk, .int .i64 len] tStat))
                    clear L8 HST
                    go_wp2_with fail
                    refine (HTK.out _).mono ?_
                    rintro e w9 ⟨rfl, rfl⟩
                    go_wp2_with fail
                    go_roundw
                    case rel => exact ⟨j + 1, hjl, rfl, by go_num, HL8.out⟩
                    case measure => simp [intOf]; omega
                · obtain rfl : j = 32 := by omega
                  have HR := Lib.hid (w_room HL2.out loc_emp)
                  have hsum := HSUM.out
                  have hm512 := HM.out
                  have hm16 := HL2.out.all.2.1
                  obtain ⟨S, hS⟩ : ∃ S, S = sumT A1 32 := ⟨_, rfl⟩
                  obtain ⟨R, hR⟩ : ∃ R, R = aroom m A1 := ⟨_, rfl⟩
                  rw [← hR] at HR
                  rw [← hS, ← hR] at hsum
                  rw [← hS]
                  have wr1 : IntKind.i64.wrap ((S : Int) + (R : Int)) = ((m - 9 : Nat) : Int) := by rw [IntKind.wrap_i64] <;> omega
                  have wr2 : IntKind.i64.wrap ((m : Int) - 9) = ((m - 9 : Nat) : Int) := by rw [IntKind.wrap_i64] <;> omega
                  clear hsum hS hR hm16 hm512 HL2
                  generalize m - 9 = m9 at *
                  go_wp2_with fail
                  refine HR.out.mono ?_
                  rintro e w8 ⟨rfl, L8⟩
                  have HHM := Lib.hid L8.home
                  have wk : IntKind.i64.wrap ((k : Int) + 1) = (k : Int) + 1 := by have := HBN.out; rw [IntKind.wrap_i64] <;> omega
                  have HL8 := Lib.hid L8
                  clear L8 HR
                  go_wp2_with fail
                  refine HHM.out.mono ?_
                  rintro e w9 ⟨rfl, rfl⟩
                  go_wp2_with fail
                  go_roundw
                  case rel => first | exact ⟨k + 1, c1, A1, hlt, by go_num, HL8.out⟩ | ((repeat apply Exists.intro); exact ⟨⟨_, _, _, hlt, by go_num, HL8.out⟩, rfl⟩)
                  case measure => simp [intOf]; omega
          · have t6 : (a.kind == 6) = false := by rw [beq_eq_false_iff_ne]; exact k6
            clear k6
            by_cases k7 : a.kind = 7
            · have t7 : (a.kind == 7) = true := by simpa using k7
              obtain ⟨full, c1, _, HK⟩ := w_cut (VW.drew HL.out loc_emp) loc_emp a.n a.off
              have HK := Lib.hid HK
              clear HL k7
              go_wp2_with fail
              refine wp_region_tail 11 (by kernel_rfl) (by kernel_rfl) ?_
              simp only [List.take_succ_cons, List.take_zero, List.drop_succ_cons, List.drop_zero]
              repeat still_step
              refine wpStill_nil ?_
              go_wp2_with fail
              refine HK.out.mono ?_
              rintro e w4 ⟨rfl, L4⟩
              obtain ⟨A1, hA1⟩ : ∃ A1, A1 = acut A full a.n a.off := ⟨_, rfl⟩
              rw [← hA1] at L4
              have HL1 := Lib.hid L4
              clear L4 HK hA1 q0 q1 q2 q3 q4
              have hj : (k % 2 = 0) ∨ (k % 2 = 1) := by omega
              rcases hj with hj | hj
              · have hm0 : (k : Int).tmod 2 = 0 := by rw [Int.tmod_eq_emod_of_nonneg (by omega)]; omega
                clear hj
                have HC := Lib.hid (w_commit HL1.out loc_emp)
                clear HL1
                go_wp2_with fail
                refine HC.out.mono ?_
                rintro e w5 ⟨rfl, L5⟩
                have HL1 := Lib.hid (L5.more (Nat.zero_le c1))
                clear L5 HC
                obtain ⟨hsum, _, hm512, hlen⟩ := HL1.out.all
                have HSUM := Lib.hid hsum
                have HLEN := Lib.hid hlen
                have HM := Lib.hid hm512
                clear hsum hlen hm512
                go_wp2_with fail
                go_loopw [11, 12] (fun s11 s12 wr => ∃ j : Nat, j ≤ 32 ∧ s11 = .int .i64 (sumT A1 j : Nat) ∧ s12 = .int .i64 j ∧ VW c1 Nob w v b d m A1 Emp wr) (fun _ s12 _ => 32 - (intOf s12).toNat)
                case atStart => exact ⟨0, Nat.zero_le _, rfl, rfl, HL1.out⟩
                case round =>
                  clear HL1
                  obtain ⟨j, hj32, rfl, rfl, hV⟩ := hrel
                  have HL2 := Lib.hid hV
                  clear hV
                  by_cases hjl : j < 32
                  · have hS := w_stat HL2.out loc_emp j
                    rw [afind_at A1 hjl, Int.toNat_natCast] at hS
                    have hss := sumT_succ A1 j
                    by_cases hk0 : (A1 j).kind = 0
                    · rw [if_pos hk0, if_neg (by decide), show nstatV Node.free = .agg #[.int .i64 0, .int .i64 0, .int .i64 0] from rfl] at hS
                      rw [HL2.out.nofree hjl hk0, show takesP 0 = 0 from rfl, Nat.add_zero] at hss
                      have HSS := Lib.hid hss
                      have HST := Lib.hid hS
                      clear hS hss HL2 hk0
                      go_wp2_with fail
                      refine HST.out.mono ?_
                      rintro e w8 ⟨rfl, L8⟩
                      have HL8 := Lib.hid (VW.alloc L8 loc_emp (.cells #[.int .i64 0, .int .i64 0, .int .i64 0] tStat))
                      clear L8 HST
                      go_wp2_with fail
                      go_roundw
                      case rel => exact ⟨j + 1, hjl, by rw [HSS.out] <;> rfl, by go_num, HL8.out⟩
                      case measure => simp [intOf]; omega
                    · rw [if_neg hk0, if_pos rfl, show nstatV (A1 j) = .agg #[.int .i64 (A1 j).kind, .int .i64 (A1 j).links, .int .i64 (A1 j).data.length] from rfl] at hS
                      have hle := sumT_le HLEN.out (j + 1) hjl
                      have hl2 := HLEN.out j hjl
                      have htk := takes_le38 hl2
                      have wr1 : IntKind.i64.wrap ((sumT A1 j : Int) + (takesP (A1 j).data.length : Int)) = ((sumT A1 (j + 1) : Nat) : Int) := by rw [hss, IntKind.wrap_i64] <;> omega
                      have HTK := Lib.hid (rtakes_calls (A1 j).data.length (by omega))
                      have HST := Lib.hid hS
                      clear hS hss HL2 hk0 hle hl2 htk
                      generalize (A1 j).data.length = len at *
                      generalize (A1 j).kind = kd at *
                      generalize (A1 j).links = lk at *
                      go_wp2_with fail
                      refine HST.out.mono ?_
                      rintro e w8 ⟨rfl, L8⟩
                      have HL8 := Lib.hid (VW.alloc L8 loc_emp (.cells #[.int .i64 kd, .int .i64 lk, .int .i64 len] tStat))
                      clear L8 HST
                      go_wp2_with fail
                      refine (HTK.out _).mono ?_
                      rintro e w9 ⟨rfl, rfl⟩
                      go_wp2_with fail
                      go_roundw
                      case rel => exact ⟨j + 1, hjl, rfl, by go_num, HL8.out⟩
                      case measure => simp [intOf]; omega
                  · obtain rfl : j = 32 := by omega
                    have HR := Lib.hid (w_room HL2.out loc_emp)
                    have hsum := HSUM.out
                    have hm512 := HM.out
                    have hm16 := HL2.out.all.2.1
                    obtain ⟨S, hS⟩ : ∃ S, S = sumT A1 32 := ⟨_, rfl⟩
                    obtain ⟨R, hR⟩ : ∃ R, R = aroom m A1 := ⟨_, rfl⟩
                    rw [← hR] at HR
                    rw [← hS, ← hR] at hsum
                    rw [← hS]
                    have wr1 : IntKind.i64.wrap ((S : Int) + (R : Int)) = ((m - 9 : Nat) : Int) := by rw [IntKind.wrap_i64] <;> omega
                    have wr2 : IntKind.i64.wrap ((m : Int) - 9) = ((m - 9 : Nat) : Int) := by rw [IntKind.wrap_i64] <;> omega
                    clear hsum hS hR hm16 hm512 HL2
                    generalize m - 9 = m9 at *
                    go_wp2_with fail
                    refine HR.out.mono ?_
                    rintro e w8 ⟨rfl, L8⟩
                    have HHM := Lib.hid L8.home
                    have wk : IntKind.i64.wrap ((k : Int) + 1) = (k : Int) + 1 := by have := HBN.out; rw [IntKind.wrap_i64] <;> omega
                    have HL8 := Lib.hid L8
                    clear L8 HR
                    go_wp2_with fail
                    refine HHM.out.mono ?_
                    rintro e w9 ⟨rfl, rfl⟩
                    go_wp2_with fail
                    go_roundw
                    case rel => first | exact ⟨k + 1, c1, A1, hlt, by go_num, HL8.out⟩ | ((repeat apply Exists.intro); exact ⟨⟨_, _, _, hlt, by go_num, HL8.out⟩, rfl⟩)
                    case measure => simp [intOf]; omega
              · have hm0 : (k : Int).tmod 2 = 1 := by rw [Int.tmod_eq_emod_of_nonneg (by omega)]; omega
                clear hj
                obtain ⟨hsum, _, hm512, hlen⟩ := HL1.out.all
                have HSUM := Lib.hid hsum
                have HLEN := Lib.hid hlen
                have HM := Lib.hid hm512
                clear hsum hlen hm512
                go_wp2_with fail
                go_loopw [11, 12] (fun s11 s12 wr => ∃ j : Nat, j ≤ 32 ∧ s11 = .int .i64 (sumT A1 j : Nat) ∧ s12 = .int .i64 j ∧ VW c1 Nob w v b d m A1 Emp wr) (fun _ s12 _ => 32 - (intOf s12).toNat)
                case atStart => exact ⟨0, Nat.zero_le _, rfl, rfl, HL1.out⟩
                case round =>
                  clear HL1
                  obtain ⟨j, hj32, rfl, rfl, hV⟩ := hrel
                  have HL2 := Lib.hid hV
                  clear hV
                  by_cases hjl : j < 32
                  · have hS := w_stat HL2.out loc_emp j
                    rw [afind_at A1 hjl, Int.toNat_natCast] at hS
                    have hss := sumT_succ A1 j
                    by_cases hk0 : (A1 j).kind = 0
                    · rw [if_pos hk0, if_neg (by decide), show nstatV Node.free = .agg #[.int .i64 0, .int .i64 0, .int .i64 0] from rfl] at hS
                      rw [HL2.out.nofree hjl hk0, show takesP 0 = 0 from rfl, Nat.add_zero] at hss
                      have HSS := Lib.hid hss
                      have HST := Lib.hid hS
                      clear hS hss HL2 hk0
                      go_wp2_with fail
                      refine HST.out.mono ?_
                      rintro e w8 ⟨rfl, L8⟩
                      have HL8 := Lib.hid (VW.alloc L8 loc_emp (.cells #[.int .i64 0, .int .i64 0, .int .i64 0] tStat))
                      clear L8 HST
                      go_wp2_with fail
                      go_roundw
                      case rel => exact ⟨j + 1, hjl, by rw [HSS.out] <;> rfl, by go_num, HL8.out⟩
                      case measure => simp [intOf]; omega
                    · rw [if_neg hk0, if_pos rfl, show nstatV (A1 j) = .agg #[.int .i64 (A1 j).kind, .int .i64 (A1 j).links, .int .i64 (A1 j).data.length] from rfl] at hS
                      have hle := sumT_le HLEN.out (j + 1) hjl
                      have hl2 := HLEN.out j hjl
                      have htk := takes_le38 hl2
                      have wr1 : IntKind.i64.wrap ((sumT A1 j : Int) + (takesP (A1 j).data.length : Int)) = ((sumT A1 (j + 1) : Nat) : Int) := by rw [hss, IntKind.wrap_i64] <;> omega
                      have HTK := Lib.hid (rtakes_calls (A1 j).data.length (by omega))
                      have HST := Lib.hid hS
                      clear hS hss HL2 hk0 hle hl2 htk
                      generalize (A1 j).data.length = len at *
                      generalize (A1 j).kind = kd at *
                      generalize (A1 j).links = lk at *
                      go_wp2_with fail
                      refine HST.out.mono ?_
                      rintro e w8 ⟨rfl, L8⟩
                      have HL8 := Lib.hid (VW.alloc L8 loc_emp (.cells #[.int .i64 kd, .int .i64 lk, .int .i64 len] tStat))
                      clear L8 HST
                      go_wp2_with fail
                      refine (HTK.out _).mono ?_
                      rintro e w9 ⟨rfl, rfl⟩
                      go_wp2_with fail
                      go_roundw
                      case rel => exact ⟨j + 1, hjl, rfl, by go_num, HL8.out⟩
                      case measure => simp [intOf]; omega
                  · obtain rfl : j = 32 := by omega
                    have HR := Lib.hid (w_room HL2.out loc_emp)
                    have hsum := HSUM.out
                    have hm512 := HM.out
                    have hm16 := HL2.out.all.2.1
                    obtain ⟨S, hS⟩ : ∃ S, S = sumT A1 32 := ⟨_, rfl⟩
                    obtain ⟨R, hR⟩ : ∃ R, R = aroom m A1 := ⟨_, rfl⟩
                    rw [← hR] at HR
                    rw [← hS, ← hR] at hsum
                    rw [← hS]
                    have wr1 : IntKind.i64.wrap ((S : Int) + (R : Int)) = ((m - 9 : Nat) : Int) := by rw [IntKind.wrap_i64] <;> omega
                    have wr2 : IntKind.i64.wrap ((m : Int) - 9) = ((m - 9 : Nat) : Int) := by rw [IntKind.wrap_i64] <;> omega
                    clear hsum hS hR hm16 hm512 HL2
                    generalize m - 9 = m9 at *
                    go_wp2_with fail
                    refine HR.out.mono ?_
                    rintro e w8 ⟨rfl, L8⟩
                    have HHM := Lib.hid L8.home
                    have wk : IntKind.i64.wrap ((k : Int) + 1) = (k : Int) + 1 := by have := HBN.out; rw [IntKind.wrap_i64] <;> omega
                    have HL8 := Lib.hid L8
                    clear L8 HR
                    go_wp2_with fail
                    refine HHM.out.mono ?_
                    rintro e w9 ⟨rfl, rfl⟩
                    go_wp2_with fail
                    go_roundw
                    case rel => first | exact ⟨k + 1, c1, A1, hlt, by go_num, HL8.out⟩ | ((repeat apply Exists.intro); exact ⟨⟨_, _, _, hlt, by go_num, HL8.out⟩, rfl⟩)
                    case measure => simp [intOf]; omega
            · have t7 : (a.kind == 7) = false := by rw [beq_eq_false_iff_ne]; exact k7
              clear k7
              obtain ⟨A1, hA1⟩ : ∃ A1, A1 = A := ⟨_, rfl⟩
              obtain ⟨c1, hc1⟩ : ∃ c1, c1 = c := ⟨_, rfl⟩
              rw [← hA1, ← hc1] at HL
              have HL1 := HL
              clear HL hA1 hc1
              have hj : (k % 2 = 0) ∨ (k % 2 = 1) := by omega
              rcases hj with hj | hj
              · have hm0 : (k : Int).tmod 2 = 0 := by rw [Int.tmod_eq_emod_of_nonneg (by omega)]; omega
                clear hj
                have HC := Lib.hid (w_commit HL1.out loc_emp)
                clear HL1
                go_wp2_with fail
                refine HC.out.mono ?_
                rintro e w5 ⟨rfl, L5⟩
                have HL1 := Lib.hid (L5.more (Nat.zero_le c1))
                clear L5 HC
                obtain ⟨hsum, _, hm512, hlen⟩ := HL1.out.all
                have HSUM := Lib.hid hsum
                have HLEN := Lib.hid hlen
                have HM := Lib.hid hm512
                clear hsum hlen hm512
                go_wp2_with fail
                go_loopw [11, 12] (fun s11 s12 wr => ∃ j : Nat, j ≤ 32 ∧ s11 = .int .i64 (sumT A1 j : Nat) ∧ s12 = .int .i64 j ∧ VW c1 Nob w v b d m A1 Emp wr) (fun _ s12 _ => 32 - (intOf s12).toNat)
                case atStart => exact ⟨0, Nat.zero_le _, rfl, rfl, HL1.out⟩
                case round =>
                  clear HL1
                  obtain ⟨j, hj32, rfl, rfl, hV⟩ := hrel
                  have HL2 := Lib.hid hV
                  clear hV
                  by_cases hjl : j < 32
                  · have hS := w_stat HL2.out loc_emp j
                    rw [afind_at A1 hjl, Int.toNat_natCast] at hS
                    have hss := sumT_succ A1 j
                    by_cases hk0 : (A1 j).kind = 0
                    · rw [if_pos hk0, if_neg (by decide), show nstatV Node.free = .agg #[.int .i64 0, .int .i64 0, .int .i64 0] from rfl] at hS
                      rw [HL2.out.nofree hjl hk0, show takesP 0 = 0 from rfl, Nat.add_zero] at hss
                      have HSS := Lib.hid hss
                      have HST := Lib.hid hS
                      clear hS hss HL2 hk0
                      go_wp2_with fail
                      refine HST.out.mono ?_
                      rintro e w8 ⟨rfl, L8⟩
                      have HL8 := Lib.hid (VW.alloc L8 loc_emp (.cells #[.int .i64 0, .int .i64 0, .int .i64 0] tStat))
                      clear L8 HST
                      go_wp2_with fail
                      go_roundw
                      case rel => exact ⟨j + 1, hjl, by rw [HSS.out] <;> rfl, by go_num, HL8.out⟩
                      case measure => simp [intOf]; omega
                    · rw [if_neg hk0, if_pos rfl, show nstatV (A1 j) = .agg #[.int .i64 (A1 j).kind, .int .i64 (A1 j).links, .int .i64 (A1 j).data.length] from rfl] at hS
                      have hle := sumT_le HLEN.out (j + 1) hjl
                      have hl2 := HLEN.out j hjl
                      have htk := takes_le38 hl2
                      have wr1 : IntKind.i64.wrap ((sumT A1 j : Int) + (takesP (A1 j).data.length : Int)) = ((sumT A1 (j + 1) : Nat) : Int) := by rw [hss, IntKind.wrap_i64] <;> omega
                      have HTK := Lib.hid (rtakes_calls (A1 j).data.length (by omega))
                      have HST := Lib.hid hS
                      clear hS hss HL2 hk0 hle hl2 htk
                      generalize (A1 j).data.length = len at *
                      generalize (A1 j).kind = kd at *
                      generalize (A1 j).links = lk at *
                      go_wp2_with fail
                      refine HST.out.mono ?_
                      rintro e w8 ⟨rfl, L8⟩
                      have HL8 := Lib.hid (VW.alloc L8 loc_emp (.cells #[.int .i64 kd, .int .i64 lk, .int .i64 len] tStat))
                      clear L8 HST
                      go_wp2_with fail
                      refine (HTK.out _).mono ?_
                      rintro e w9 ⟨rfl, rfl⟩
                      go_wp2_with fail
                      go_roundw
                      case rel => exact ⟨j + 1, hjl, rfl, by go_num, HL8.out⟩
                      case measure => simp [intOf]; omega
                  · obtain rfl : j = 32 := by omega
                    have HR := Lib.hid (w_room HL2.out loc_emp)
                    have hsum := HSUM.out
                    have hm512 := HM.out
                    have hm16 := HL2.out.all.2.1
                    obtain ⟨S, hS⟩ : ∃ S, S = sumT A1 32 := ⟨_, rfl⟩
                    obtain ⟨R, hR⟩ : ∃ R, R = aroom m A1 := ⟨_, rfl⟩
                    rw [← hR] at HR
                    rw [← hS, ← hR] at hsum
                    rw [← hS]
                    have wr1 : IntKind.i64.wrap ((S : Int) + (R : Int)) = ((m - 9 : Nat) : Int) := by rw [IntKind.wrap_i64] <;> omega
                    have wr2 : IntKind.i64.wrap ((m : Int) - 9) = ((m - 9 : Nat) : Int) := by rw [IntKind.wrap_i64] <;> omega
                    clear hsum hS hR hm16 hm512 HL2
                    generalize m - 9 = m9 at *
                    go_wp2_with fail
                    refine HR.out.mono ?_
                    rintro e w8 ⟨rfl, L8⟩
                    have HHM := Lib.hid L8.home
                    have wk : IntKind.i64.wrap ((k : Int) + 1) = (k : Int) + 1 := by have := HBN.out; rw [IntKind.wrap_i64] <;> omega
                    have HL8 := Lib.hid L8
                    clear L8 HR
                    go_wp2_with fail
                    refine HHM.out.mono ?_
                    rintro e w9 ⟨rfl, rfl⟩
                    go_wp2_with fail
                    go_roundw
                    case rel => first | exact ⟨k + 1, c1, A1, hlt, by go_num, HL8.out⟩ | ((repeat apply Exists.intro); exact ⟨⟨_, _, _, hlt, by go_num, HL8.out⟩, rfl⟩)
                    case measure => simp [intOf]; omega
              · have hm0 : (k : Int).tmod 2 = 1 := by rw [Int.tmod_eq_emod_of_nonneg (by omega)]; omega
                clear hj
                obtain ⟨hsum, _, hm512, hlen⟩ := HL1.out.all
                have HSUM := Lib.hid hsum
                have HLEN := Lib.hid hlen
                have HM := Lib.hid hm512
                clear hsum hlen hm512
                go_wp2_with fail
                go_loopw [11, 12] (fun s11 s12 wr => ∃ j : Nat, j ≤ 32 ∧ s11 = .int .i64 (sumT A1 j : Nat) ∧ s12 = .int .i64 j ∧ VW c1 Nob w v b d m A1 Emp wr) (fun _ s12 _ => 32 - (intOf s12).toNat)
                case atStart => exact ⟨0, Nat.zero_le _, rfl, rfl, HL1.out⟩
                case round =>
                  clear HL1
                  obtain ⟨j, hj32, rfl, rfl, hV⟩ := hrel
                  have HL2 := Lib.hid hV
                  clear hV
                  by_cases hjl : j < 32
                  · have hS := w_stat HL2.out loc_emp j
                    rw [afind_at A1 hjl, Int.toNat_natCast] at hS
                    have hss := sumT_succ A1 j
                    by_cases hk0 : (A1 j).kind = 0
                    · rw [if_pos hk0, if_neg (by decide), show nstatV Node.free = .agg #[.int .i64 0, .int .i64 0, .int .i64 0] from rfl] at hS
                      rw [HL2.out.nofree hjl hk0, show takesP 0 = 0 from rfl, Nat.add_zero] at hss
                      have HSS := Lib.hid hss
                      have HST := Lib.hid hS
                      clear hS hss HL2 hk0
                      go_wp2_with fail
                      refine HST.out.mono ?_
                      rintro e w8 ⟨rfl, L8⟩
                      have HL8 := Lib.hid (VW.alloc L8 loc_emp (.cells #[.int .i64 0, .int .i64 0, .int .i64 0] tStat))
                      clear L8 HST
                      go_wp2_with fail
                      go_roundw
                      case rel => exact ⟨j + 1, hjl, by rw [HSS.out] <;> rfl, by go_num, HL8.out⟩
                      case measure => simp [intOf]; omega
                    · rw [if_neg hk0, if_pos rfl, show nstatV (A1 j) = .agg #[.int .i64 (A1 j).kind, .int .i64 (A1 j).links, .int .i64 (A1 j).data.length] from rfl] at hS
                      have hle := sumT_le HLEN.out (j + 1) hjl
                      have hl2 := HLEN.out j hjl
                      have htk := takes_le38 hl2
                      have wr1 : IntKind.i64.wrap ((sumT A1 j : Int) + (takesP (A1 j).data.length : Int)) = ((sumT A1 (j + 1) : Nat) : Int) := by rw [hss, IntKind.wrap_i64] <;> omega
                      have HTK := Lib.hid (rtakes_calls (A1 j).data.length (by omega))
                      have HST := Lib.hid hS
                      clear hS hss HL2 hk0 hle hl2 htk
                      generalize (A1 j).data.length = len at *
                      generalize (A1 j).kind = kd at *
                      generalize (A1 j).links = lk at *
                      go_wp2_with fail
                      refine HST.out.mono ?_
                      rintro e w8 ⟨rfl, L8⟩
                      have HL8 := Lib.hid (VW.alloc L8 loc_emp (.cells #[.int .i64 kd, .int .i64 lk, .int .i64 len] tStat))
                      clear L8 HST
                      go_wp2_with fail
                      refine (HTK.out _).mono ?_
                      rintro e w9 ⟨rfl, rfl⟩
                      go_wp2_with fail
                      go_roundw
                      case rel => exact ⟨j + 1, hjl, rfl, by go_num, HL8.out⟩
                      case measure => simp [intOf]; omega
                  · obtain rfl : j = 32 := by omega
                    have HR := Lib.hid (w_room HL2.out loc_emp)
                    have hsum := HSUM.out
                    have hm512 := HM.out
                    have hm16 := HL2.out.all.2.1
                    obtain ⟨S, hS⟩ : ∃ S, S = sumT A1 32 := ⟨_, rfl⟩
                    obtain ⟨R, hR⟩ : ∃ R, R = aroom m A1 := ⟨_, rfl⟩
                    rw [← hR] at HR
                    rw [← hS, ← hR] at hsum
                    rw [← hS]
                    have wr1 : IntKind.i64.wrap ((S : Int) + (R : Int)) = ((m - 9 : Nat) : Int) := by rw [IntKind.wrap_i64] <;> omega
                    have wr2 : IntKind.i64.wrap ((m : Int) - 9) = ((m - 9 : Nat) : Int) := by rw [IntKind.wrap_i64] <;> omega
                    clear hsum hS hR hm16 hm512 HL2
                    generalize m - 9 = m9 at *
                    go_wp2_with fail
                    refine HR.out.mono ?_
                    rintro e w8 ⟨rfl, L8⟩
                    have HHM := Lib.hid L8.home
                    have wk : IntKind.i64.wrap ((k : Int) + 1) = (k : Int) + 1 := by have := HBN.out; rw [IntKind.wrap_i64] <;> omega
                    have HL8 := Lib.hid L8
                    clear L8 HR
                    go_wp2_with fail
                    refine HHM.out.mono ?_
                    rintro e w9 ⟨rfl, rfl⟩
                    go_wp2_with fail
                    go_roundw
                    case rel => first | exact ⟨k + 1, c1, A1, hlt, by go_num, HL8.out⟩ | ((repeat apply Exists.intro); exact ⟨⟨_, _, _, hlt, by go_num, HL8.out⟩, rfl⟩)
                    case measure => simp [intOf]; omega
    · have hge : ¬ (k : Int) < (n : Int) := by omega
      have HFR := Lib.hid HL.out.lv
      go_wp2_with fail
      go_ret
      exact ⟨rfl, HFR.out⟩
end Go.Proofs.YtfldhmeenbdkiaaGreat
