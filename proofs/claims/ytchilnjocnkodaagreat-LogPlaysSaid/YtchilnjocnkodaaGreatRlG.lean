/- The document's log: Set, walked. -/
import Derived.Test.YtchilnjocnkodaaGreatMRlD
namespace Go.Proofs.YtchilnjocnkodaaGreat
open Go.RowKit

section
variable {S0 : Nat → Prop} {w0 w : World} {b d : Nat} {L : LSt} {B : Asr}
theorem rl_store {a2 : Option Addr} {m c2 : Nat} {out stg : Stg} {dead : Bool} {R : Asr} (hm : m = out.length) (h : Lv S0 w0 (Star (rowA tRRow 2 (.slice a2 m c2) m (flatR out)) (Star (rlA b d stg dead) R)) w) (hR : Loc R) :
    Lv S0 w0 (Star (rlA b d out dead) R) (w.setCell ⟨b, 1, none⟩ (.slice a2 m c2)) := by
  subst hm
  refine Lv.turn (A := Star (rowA tRRow 2 (.slice a2 out.length c2) out.length (flatR out)) (rlA b d stg dead)) h.assoc' hR ?_
  rintro U ⟨S, T, h1, ⟨ao, c, h2, _, h4, _⟩, h6, h7, h8⟩
  refine ⟨⟨a2, c2, h2.set 1 _, ?_, .inl (h8 b h4), fun k hk => .inl (h7 k (h1.2 k hk))⟩, (Fr.setCell h4 w 1 _).mono h8⟩
  exact ownsRow_setCell_other h1.1 (a := ⟨b, 1, none⟩) (fun e => h6 b (h1.2 b e) h4) _

theorem out_cells {a2 : Option Addr} {m c2 : Nat} {out : Stg} {wr : World} (h : Lv S0 w0 (Star (rowA tRRow 2 (.slice a2 m c2) m (flatR out)) (Star (rlA b d L.stg L.dead) (Star (dskA kR d L.D) B))) wr) : ∃ ao c, RlCells wr b d L.stg L.dead ao c := by
  obtain ⟨_, _, _, h, _⟩ := Lv.second h
  exact rl_cells h

theorem out_append {a2 : Option Addr} {m c2 : Nat} {o : Stg} {y : Nat × ByteArray} {R : Asr} {w2 w3 : World} {v' : Value} (hm : m = o.length) (hl : Lv S0 w0 (Star (rowA tRRow 2 (.slice a2 m c2) m (flatR o)) R) w2) (hR : Loc R)
    (ho3 : w3.ownsRow 0 tRRow 2 v' (m + 1) (flatR o ++ [.int .i64 (y.1 : Int), .string y.2])) (hf3 : Fr (fun k => (Value.slice a2 m c2).ownBlock = some k) w2 w3) (hv3 : ∀ k, v'.ownBlock = some k → (Value.slice a2 m c2).ownBlock = some k ∨ w2.heap.size ≤ k) :
    m + 1 = (o ++ [y]).length ∧ Lv S0 w0 (Star (rowA tRRow 2 v' (m + 1) (flatR (o ++ [y]))) R) w3 := by
  refine ⟨by rw [List.length_append, ← hm]; rfl, ?_⟩
  rw [flatR_snoc]
  exact hl.turn hR (turn_append ho3 hf3 hv3)
/-- What Set comes to. -/
theorem set_ends {j : Nat} {s : ByteArray} {a2 : Option Addr} {m c2 : Nat} (ho : L.stg.Good 512) (hE : L.setE (j : Int) s = if L.stg.at j = none ∧ L.stg.length = 30 then 4 else 0) (hm : m = (Stg.put L.stg j s).length)
    (hl : Lv S0 w0 (Star (rowA tRRow 2 (.slice a2 m c2) m (flatR (Stg.put L.stg j s))) (Star (rlA b d L.stg L.dead) (Star (dskA kR d L.D) B))) w) (hB : Loc B) :
    (m ≤ 30 → L.setE (j : Int) s = 0 ∧ RV S0 w0 b d (L.set (j : Int) s) B (w.setCell ⟨b, 1, none⟩ (.slice a2 m c2))) ∧ (30 < m → L.setE (j : Int) s = 4 ∧ RV S0 w0 b d (L.set (j : Int) s) B w) := by
  have hp := put_len ho.ok j s
  have hlen := ho.len
  rw [← hm] at hp
  constructor
  · intro h
    have hE0 : L.setE (j : Int) s = 0 := by
      rw [hE, if_neg]
      rintro ⟨h1, h2⟩
      rw [if_pos h1] at hp
      omega
    have hset : L.set (j : Int) s = { L with stg := Stg.put L.stg j s } := by
      unfold LSt.set
      rw [if_neg (by simp [hE0]), Int.toNat_natCast]
    rw [hset]
    exact ⟨hE0, rl_store hm hl (loc_star (loc_dsk _ _ _) hB)⟩
  · intro h
    have hE4 : L.setE (j : Int) s = 4 := by
      rw [hE, if_pos]
      by_cases h1 : L.stg.at j = none
      · rw [if_pos h1] at hp; exact ⟨h1, by omega⟩
      · rw [if_neg h1] at hp; omega
    have hset : L.set (j : Int) s = L := by
      unfold LSt.set
      rw [if_pos (by simp [hE4])]
    rw [hset]
    exact ⟨hE4, hl.drop⟩

set_option maxRecDepth 100000 in
set_option maxHeartbeats 8000000 in
theorem rset_calls (hL : RV S0 w0 b d L B w) (hB : Loc B) (ho : L.stg.Good 512) (i : Int) (s : ByteArray) :
    Calls Tryz.prog 37 #[.pointer (some ⟨b, 0, none⟩), .int .i64 i, .string s] w fun e w' => e = .returned (.int .i64 (L.setE i s)) ∧ RV S0 w0 b d (L.set i s) B w' := by
  have HM := Lib.hid (rmay_calls hL i)
  have hok := hL.safe.2.len
  have HO := Lib.hid ho
  have hlR : Loc (Star (rlA b d L.stg L.dead) (Star (dskA kR d L.D) B)) := RV.loc hB
  have bad : ∀ z, L.setE i s = z → z ≠ 0 → RV S0 w0 b d (L.set i s) B w := by
    intro z h hz
    unfold LSt.set
    rw [if_pos (by rw [h]; exact hz)]
    exact hL
  have BAD := Lib.hid bad
  clear ho bad
  by_cases h0 : L.mayE i = 0
  · obtain ⟨_, hi0, hi1⟩ := may_zero h0
    obtain ⟨j, rfl⟩ := Int.eq_ofNat_of_zero_le hi0
    have hE0 : s.size = 64 → L.setE (j : Int) s = if L.stg.at j = none ∧ L.stg.length = 30 then 4 else 0 := by
      intro hs
      unfold LSt.setE
      rw [if_neg (by simpa using h0), if_neg (by simpa using hs), Int.toNat_natCast]
    have hE1 : s.size ≠ 64 → L.setE (j : Int) s = 1 := by
      intro hs
      unfold LSt.setE
      rw [if_neg (by simpa using h0), if_pos hs]
    have HE0 := Lib.hid hE0
    have HE1 := Lib.hid hE1
    rw [h0] at HM
    clear h0 hi0 hi1 hE0 hE1
    by_cases hs : s.size = 64
    · have hsz : (s.size : Int) = 64 := by omega
      have HES := Lib.hid (HE0.out hs)
      obtain ⟨n, hn⟩ : ∃ n, n = L.stg.length := ⟨_, rfl⟩
      have HN := Lib.hid hn
      have hn30 : n ≤ 30 := by rw [hn]; exact HO.out.len
      have L1 : Lv S0 w0 (Star (rowA tRRow 2 (.slice none 0 0) 0 (flatR (outK L.stg j s 0))) (Star (rlA b d L.stg L.dead) (Star (dskA kR d L.D) B))) w :=
        Lv.new hL hlR (Fr.refl _ _) ⟨World.ownsRow_nil _ _ _ _, fun k hk => (by cases hk)⟩
      have hrel0 : ∃ k : Nat, k ≤ n ∧ Value.int .i64 0 = .int .i64 k ∧ Value.bool false = .bool (doneK L.stg j k) ∧ ∃ a2 m c2, Value.slice none 0 0 = .slice a2 m c2 ∧ m = (outK L.stg j s k).length ∧ Lv S0 w0 (Star (rowA tRRow 2 (.slice a2 m c2) m (flatR (outK L.stg j s k))) (Star (rlA b d L.stg L.dead) (Star (dskA kR d L.D) B))) w :=
        ⟨0, Nat.zero_le _, rfl, rfl, none, 0, 0, rfl, rfl, L1⟩
      clear hs HE0 HE1 hn L1 hL
      go_enter Tryz.func37, Tryz.ntmps37
      go_wp2_with fail
      refine HM.out.mono ?_
      rintro e w1 ⟨rfl, rfl⟩
      go_wp2_with fail
      go_loopw [8, 9, 10] (fun s8 s9 s10 wr => ∃ k : Nat, k ≤ n ∧ s10 = .int .i64 k ∧ s9 = .bool (doneK L.stg j k) ∧ ∃ a2 m c2, s8 = .slice a2 m c2 ∧ m = (outK L.stg j s k).length ∧ Lv S0 w0 (Star (rowA tRRow 2 (.slice a2 m c2) m (flatR (outK L.stg j s k))) (Star (rlA b d L.stg L.dead) (Star (dskA kR d L.D) B))) wr) (fun _ _ s10 _ => n - (intOf s10).toNat)
      case atStart => exact hrel0
      case round =>
        obtain ⟨k, hk, rfl, rfl, a2, m, c2, rfl, hm, hLk⟩ := hrel
        obtain ⟨ao, c, hc⟩ := out_cells hLk
        have cc1 := hc.c1
        have z1 := hc.z 1
        rw [← HN.out] at cc1
        have HM2 := Lib.hid hm
        have hm31 : m ≤ 31 := by rw [hm]; have := out_len (l := L.stg) (i := j) (s := s) k; omega
        have HLK := Lib.hid hLk
        have hrow := hLk.first
        obtain ⟨SR, hrow⟩ := hrow
        have HR := Lib.hid hrow.1
        have HC := Lib.hid hc
        clear hrel0 hm hLk hrow hc
        by_cases hlt : k < n
        · obtain ⟨x, hx⟩ : ∃ x, L.stg[k]? = some x := ⟨_, List.getElem?_eq_getElem (by rw [← HN.out]; exact hlt)⟩
          obtain ⟨g, off, rfl, q0, q1⟩ := HC.out.row k x hx
          have hx6 := HO.out.lt x (List.mem_of_getElem? hx)
          have HX := Lib.hid hx
          clear hx
          cases hd : doneK L.stg j k with
          | true =>
            obtain ⟨d1, hne, hou⟩ := out_done (s := s) HO.out.ok HX.out hd
            have D1 := Lib.hid d1
            have HOU := Lib.hid hou
            have hxj : ((x.1 : Int) == (j : Int)) = false := by rw [beq_eq_false_iff_ne]; omega
            clear hd d1 hne hou
            go_wp2_with (at_builtin; go_loud (refine wpList_append_mine rfl (ho := rfl) (s := .tmp 59) (x := .tmp 67) Tryz.rowRRow rfl (HR.out.alloc _) rfl (srcs_two _ _ _ _ 1 rfl rfl) (by omega) ?_); skip)
            intro v' w3 hown3 hf3 hv3 _
            obtain ⟨g', cap', rfl⟩ := row_succ hown3
            obtain ⟨hm3, L3⟩ := out_append (y := x) HM2.out (HLK.out.alloc (loc_star (loc_row _ _ _ _ _) hlR) _) hlR hown3 hf3 (fun k hk => by have := hv3 k hk; rwa [World.size_alloc])
            have HM3 := Lib.hid hm3
            clear hm3 hown3 hf3 hv3
            go_wp2_with fail
            go_roundw
            case rel => exact ⟨k + 1, hlt, by go_num, by rw [D1.out], _, _, _, rfl, by rw [HOU.out]; exact HM3.out, by rw [HOU.out]; exact L3⟩
            case measure => simp [intOf]; omega
          | false =>
            by_cases hxi : x.1 < j
            · obtain ⟨d1, hne, hou⟩ := out_wait (s := s) HX.out hd hxi
              have D1 := Lib.hid d1
              have HOU := Lib.hid hou
              have hxj : ((x.1 : Int) == (j : Int)) = false := by rw [beq_eq_false_iff_ne]; omega
              have hge : ¬ ((j : Int) ≤ (x.1 : Int)) := by omega
              clear hd d1 hne hou hxi
              go_wp2_with (at_builtin; go_loud (refine wpList_append_mine rfl (ho := rfl) (s := .tmp 59) (x := .tmp 67) Tryz.rowRRow rfl (HR.out.alloc _) rfl (srcs_two _ _ _ _ 1 rfl rfl) (by omega) ?_); skip)
              intro v' w3 hown3 hf3 hv3 _
              obtain ⟨g', cap', rfl⟩ := row_succ hown3
              obtain ⟨hm3, L3⟩ := out_append (y := x) HM2.out (HLK.out.alloc (loc_star (loc_row _ _ _ _ _) hlR) _) hlR hown3 hf3 (fun k hk => by have := hv3 k hk; rwa [World.size_alloc])
              have HM3 := Lib.hid hm3
              clear hm3 hown3 hf3 hv3
              go_wp2_with fail
              go_roundw
              case rel => exact ⟨k + 1, hlt, by go_num, by rw [D1.out], _, _, _, rfl, by rw [HOU.out]; exact HM3.out, by rw [HOU.out]; exact L3⟩
              case measure => simp [intOf]; omega
            · obtain ⟨d1, -, hou1, hou2⟩ := out_here (s := s) HX.out hd (by omega)
              have D1 := Lib.hid d1
              have HOU1 := Lib.hid hou1
              have HOU2 := Lib.hid hou2
              have hge : ((j : Int) ≤ (x.1 : Int)) := by omega
              have hgn : j ≤ x.1 := by omega
              clear hd d1 hou1 hou2 hxi
              go_wp2_with (at_builtin; go_loud (refine wpList_append_mine rfl (ho := rfl) (s := .tmp 43) (x := .tmp 47) Tryz.rowRRow rfl (HR.out.alloc _) rfl (srcs_two _ _ _ _ 1 rfl rfl) (by omega) ?_); skip)
              intro v' w3 hown3 hf3 hv3 _
              obtain ⟨g', cap', rfl⟩ := row_succ hown3
              obtain ⟨hm3, L3⟩ := out_append (y := (j, s)) HM2.out (HLK.out.alloc (loc_star (loc_row _ _ _ _ _) hlR) _) hlR hown3 hf3 (fun k hk => by have := hv3 k hk; rwa [World.size_alloc])
              have HM3 := Lib.hid hm3
              obtain ⟨ao3, cc3, hc3⟩ := out_cells L3
              have r1 := hc3.c1
              rw [← HN.out] at r1
              obtain ⟨g3, off3, rfl, r2, r3⟩ := hc3.row k x HX.out
              obtain ⟨SR3, hrow3⟩ := L3.first
              have HR3 := Lib.hid hrow3.1
              clear hm3 hown3 hf3 hv3 hc3 hrow3 q0 q1 cc1 z1
              by_cases hxe : x.1 = j
              · have hxj : ((x.1 : Int) == (j : Int)) = true := by rw [beq_iff_eq]; omega
                have HOU := Lib.hid (HOU1.out hxe)
                clear hxe
                go_wp2_with fail
                go_roundw
                case rel => exact ⟨k + 1, hlt, by go_num, by rw [D1.out], _, _, _, rfl, by rw [HOU.out]; exact HM3.out, by rw [HOU.out]; exact L3⟩
                case measure => simp [intOf]; omega
              · have hxj : ((x.1 : Int) == (j : Int)) = false := by rw [beq_eq_false_iff_ne]; omega
                have HOU := Lib.hid (HOU2.out hxe)
                clear hxe
                go_wp2_with (at_builtin; go_loud (refine wpList_append_mine rfl (ho := rfl) (s := .tmp 59) (x := .tmp 67) Tryz.rowRRow rfl (HR3.out.alloc _) rfl (srcs_two _ _ _ _ 1 rfl rfl) (by omega) ?_); skip)
                intro v' w4 hown4 hf4 hv4 _
                obtain ⟨g4, cap4, rfl⟩ := row_succ hown4
                obtain ⟨hm4, L4⟩ := out_append (y := x) HM3.out (L3.alloc (loc_star (loc_row _ _ _ _ _) hlR) _) hlR hown4 hf4 (fun k hk => by have := hv4 k hk; rwa [World.size_alloc])
                have HM4 := Lib.hid hm4
                clear hm4 hown4 hf4 hv4
                go_wp2_with fail
                go_roundw
                case rel => exact ⟨k + 1, hlt, by go_num, by rw [D1.out], _, _, _, rfl, by rw [HOU.out]; exact HM4.out, by rw [HOU.out]; exact L4⟩
                case measure => simp [intOf]; omega
        · obtain rfl : k = n := by omega
          cases hd : doneK L.stg j k with
          | true =>
            have hput : Stg.put L.stg j s = outK L.stg j s k := by rw [HN.out]; exact out_end' (by rw [← HN.out]; exact hd)
            obtain ⟨f1, f2⟩ := set_ends (b := b) (d := d) (B := B) (m := m) HO.out HES.out (by rw [hput]; exact HM2.out) (by rw [hput]; exact HLK.out) hB
            have F1 := Lib.hid f1
            have F2 := Lib.hid f2
            clear hd hput f1 f2
            by_cases h30 : m ≤ 30
            · have R := Lib.hid (F1.out h30)
              have hgt : ¬ ((30 : Int) < (m : Int)) := by omega
              go_wp2_with fail
              go_ret
              exact ⟨(by rw [R.out.1]; rfl), R.out.2⟩
            · have R := Lib.hid (F2.out (by omega))
              have hgt : ((30 : Int) < (m : Int)) := by omega
              go_wp2_with fail
              go_ret
              exact ⟨(by rw [R.out.1]; rfl), R.out.2⟩
          | false =>
            have hput : Stg.put L.stg j s = outK L.stg j s k ++ [(j, s)] := by rw [HN.out]; exact out_end (by rw [← HN.out]; exact hd)
            have HPUT := Lib.hid hput
            clear hd hput
            go_wp2_with (at_builtin; go_loud (refine wpList_append_mine rfl (ho := rfl) (s := .tmp 71) (x := .tmp 75) Tryz.rowRRow rfl (HR.out.alloc _) rfl (srcs_two _ _ _ _ 1 rfl rfl) (by omega) ?_); skip)
            intro v' w3 hown3 hf3 hv3 _
            obtain ⟨g', cap', rfl⟩ := row_succ hown3
            obtain ⟨hm3, L3⟩ := out_append (y := (j, s)) HM2.out (HLK.out.alloc (loc_star (loc_row _ _ _ _ _) hlR) _) hlR hown3 hf3 (fun k hk => by have := hv3 k hk; rwa [World.size_alloc])
            obtain ⟨ao3, cc3, hc3⟩ := out_cells L3
            have z3 := hc3.z 1
            have r1 := hc3.c1
            obtain ⟨f1, f2⟩ := set_ends (b := b) (d := d) (B := B) (m := m + 1) HO.out HES.out (by rw [HPUT.out]; exact hm3) (by rw [HPUT.out]; exact L3) hB
            have F1 := Lib.hid f1
            have F2 := Lib.hid f2
            clear f1 f2 hm3 L3 hown3 hf3 hv3 hc3 cc1 z1
            by_cases h30 : m + 1 ≤ 30
            · have R := Lib.hid (F1.out h30)
              have hgt : ¬ ((30 : Int) < (m : Int) + 1) := by omega
              go_wp2_with fail
              go_ret
              exact ⟨(by rw [R.out.1]; rfl), R.out.2⟩
            · have R := Lib.hid (F2.out (by omega))
              have hgt : ((30 : Int) < (m : Int) + 1) := by omega
              go_wp2_with fail
              go_ret
              exact ⟨(by rw [R.out.1]; rfl), R.out.2⟩
    · have hs' : ((s.size : Int) == 64) = false := by rw [beq_eq_false_iff_ne]; omega
      have H := Lib.hid (BAD.out _ (HE1.out hs) (by decide))
      rw [HE1.out hs]
      clear hs BAD hL HE0 HE1
      go_enter Tryz.func37, Tryz.ntmps37
      go_wp2_with fail
      refine HM.out.mono ?_
      rintro e w1 ⟨rfl, rfl⟩
      go_wp2_with fail
      go_ret
      exact ⟨rfl, H.out⟩
  · have h0' : (L.mayE i == 0) = false := by rw [beq_eq_false_iff_ne]; exact h0
    have hE : L.setE i s = L.mayE i := by unfold LSt.setE; rw [if_pos h0]
    have H := Lib.hid (BAD.out _ hE h0)
    rw [hE]
    clear h0 hE BAD hL
    go_enter Tryz.func37, Tryz.ntmps37
    go_wp2_with fail
    refine HM.out.mono ?_
    rintro e w1 ⟨rfl, rfl⟩
    go_wp2_with fail
    go_ret
    exact ⟨rfl, H.out⟩
end
end Go.Proofs.YtchilnjocnkodaaGreat
