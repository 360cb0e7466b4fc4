/- LogWhole's walk. -/
import Derived.Test.YtchilnjocnkodaaLogT
namespace Go.Proofs.Ytchilnjocnkodaa
open Go.RowKit

theorem txs_cells {w0 wr : World} {a : Option Addr} {c : Nat} {l : List TxV} (h : TxsAt w0 a c l) (hf : Fr Nob w0 wr) {k : Nat} {x : TxV} (hx : l[k]? = some x) :
    ∃ g off, a = some ⟨g, off, none⟩ ∧ wr.cell? ⟨g, off + k * 2, none⟩ = some (.slice x.a1 x.t.I.length x.c1) ∧ wr.cell? ⟨g, off + k * 2 + 1, none⟩ = some (.slice x.a2 x.t.S.length x.c2) := by
  have hf0 : ∀ j, j < 2 → (l.flatMap cellsT)[k * 2 + j]? = (cellsT x)[j]? := by
    intro j hj
    clear h
    induction l generalizing k with
    | nil => simp at hx
    | cons y l ih =>
      rw [List.flatMap_cons]
      cases k with
      | zero =>
        simp at hx; subst hx
        rw [List.getElem?_append_left (by simp [cellsT]; omega)]
        simp
      | succ k =>
        rw [List.getElem?_append_right (by simp [cellsT]; omega)]
        have := ih (k := k) (by simpa using hx)
        rw [← this]
        congr 1
        simp [cellsT]; omega
  obtain ⟨g, o, e, q⟩ := h.row.at (hf0 0 (by omega))
  obtain ⟨g1, o1, e1, q1⟩ := h.row.at (hf0 1 (by omega))
  rw [e] at e1
  simp only [Option.some.injEq, Addr.mk.injEq, and_true] at e1
  obtain ⟨rfl, rfl⟩ := e1
  exact ⟨g, o, e, hf.cell q (fun h => h), hf.cell q1 (fun h => h)⟩

set_option maxRecDepth 100000 in
set_option maxHeartbeats 8000000 in
theorem logWhole_calls {af a1 a2 ak : Option Addr} {cf c1 c2 ck : Nat} {first : List TxV} {last : TxD} {p : Int} {keep : List Nat} {w : World} (hF : TxsAt w af cf first) (hT : TxAt w a1 a2 c1 c2 last) (hp : p ≤ 9223372036854775807)
    (hK : Srcs w (.slice ak keep.length ck) keep.length 1 (u64s keep)) (hku : ∀ k ∈ keep, k < 18446744073709551616) :
    Calls Try.prog 3 #[.agg #[.slice af first.length cf, .slice a1 last.I.length c1, .slice a2 last.S.length c2, .int .i64 p, .slice ak keep.length ck]] w fun e w' => e = .returned (.bool true) ∧ Fr Nob w w' := by
  have HF := Lib.hid hF
  have HT := Lib.hid hT
  have HP := Lib.hid hp
  have HK := Lib.hid hK
  have HKU := Lib.hid hku
  obtain ⟨nF, hnF⟩ : ∃ n, n = first.length := ⟨_, rfl⟩
  obtain ⟨nK, hnK⟩ : ∃ n, n = keep.length := ⟨_, rfl⟩
  rw [← hnF, ← hnK]
  have HNF := Lib.hid hnF
  have HNK := Lib.hid hnK
  have L1 := ((Live.start w).box loc_emp 29 [.slice af nF cf, .slice a1 last.I.length c1, .slice a2 last.S.length c2, .int .i64 p, .slice ak nK ck]).box (loc_star (loc_blk _ _ _) loc_emp) tTx [.slice a1 last.I.length c1, .slice a2 last.S.length c2]
  rw [World.size_alloc] at L1
  have L2 : Lv Nob w (Star (blkA (w.heap.size + 1) tTx [.slice a1 last.I.length c1, .slice a2 last.S.length c2]) Emp) _ := (L1.map (B := Star (blkA (w.heap.size + 1) tTx [.slice a1 last.I.length c1, .slice a2 last.S.length c2]) Emp) (fun _ h => star_less h)).lv
  obtain ⟨X, hX⟩ : ∃ X, X = Star (blkA (w.heap.size + 1) tTx [.slice a1 last.I.length c1, .slice a2 last.S.length c2]) Emp := ⟨_, rfl⟩
  have HXX := Lib.hid hX
  have hlX : Loc X := by rw [hX]; exact loc_star (loc_blk _ _ _) loc_emp
  rw [← hX] at L2
  clear hF hT hp hK hku hnF hnK L1 hX
  go_enter Try.func3, Try.ntmps3
  go_wp2_with fail
  refine (L2.calls hlX (shown_calls _)).mono ?_
  rintro e w1 ⟨rfl, L3⟩
  clear L2
  go_wp2_with fail
  refine (new_ok 60 w1 (by omega) (by omega)).mono ?_
  rintro e w2 ⟨d, rfl, hd, hf⟩
  have L4 : Lv Nob w (Star (dskA kD d (DSt.fresh 60)) X) w2 := L3.new hlX hf hd
  clear L3 hd hf
  have hOp := (calm_fresh 28).opens
  go_wp2_with fail
  refine (lv_opens L4 hlX hOp.1 (by simp [DSt.fresh])).mono ?_
  rintro e w3 ⟨b, rfl, L5⟩
  have hI0 := idle_fresh 28
  have hRel : ∃ (H : Nat → ByteArray) (L : LSt), Idle 28 H L ∧ LV Nob w b d L X w3 := ⟨_, _, hI0, L5⟩
  clear L4 L5 hOp hI0
  go_wp2_with fail
  go_loopw [12] (fun s12 wr => ∃ k : Nat, k ≤ nF ∧ s12 = .int .i64 k ∧ ∃ (H : Nat → ByteArray) (L : LSt), Idle 28 H L ∧ LV Nob w b d L X wr) (fun s12 _ => nF - (intOf s12).toNat)
  case atStart => exact ⟨0, Nat.zero_le _, rfl, hRel⟩
  case round =>
    obtain ⟨k, hk, rfl, H, L, hI, hL⟩ := hrel
    have HI := Lib.hid hI
    clear hRel hI
    have hgo : (k < nF ∧ k < 20) ∨ ¬ (k < nF ∧ k < 20) := Classical.em _
    rcases hgo with ⟨hlt, h20⟩ | hno
    · obtain ⟨x, hx⟩ : ∃ x, first[k]? = some x := ⟨_, List.getElem?_eq_getElem (by rw [← HNF.out]; exact hlt)⟩
      obtain ⟨g, off, rfl, q0, q1⟩ := txs_cells HF.out hL.fr hx
      have htx := HF.out.each x (List.mem_of_getElem? hx)
      have HTX := Lib.hid htx
      clear htx hx
      go_wp2_with fail
      refine (sets_calls HTX.out hL hlX HI.out.ok).mono ?_
      rintro e w5 ⟨rfl, L5⟩
      clear hL q0 q1
      have hn := HI.out.next x.t.pairs
      have HN := Lib.hid hn
      obtain ⟨e1, e2⟩ := setsL_D L x.t.pairs
      have hw5 : ((setsL L x.t.pairs).D.wait.length + 70) * 24 ≤ 140737488355328 := by rw [e1, HI.out.calm.wait]; simp
      have HW5 := Lib.hid hw5
      clear hn e1 e2 hw5
      go_wp2_with fail
      refine (lv_commit L5 hlX (setsL_good HI.out.ok _) HW5.out).mono ?_
      rintro e w6 ⟨he, L6⟩
      rw [HN.out.1] at he
      subst he
      clear L5
      go_wp2_with fail
      go_roundw
      case rel => exact ⟨k + 1, hlt, by go_num, _, _, HN.out.2, L6⟩
      case measure => simp [intOf]; omega
    · have hcases : (k < nF ∧ 20 ≤ k) ∨ nF ≤ k := by omega
      clear hno
      have e5 : over H L.stg = H := by rw [HI.out.stg, over_nil]
      have E5 := Lib.hid e5
      clear e5
      rcases hcases with ⟨hc1, hc2⟩ | hc1
      all_goals
        go_wp2_with fail
        refine (calm_homes hL hlX HI.out.calm HI.out.dead).mono ?_
        rintro e w5 ⟨ao5, c5, rfl, L5⟩
        rw [E5.out] at L5
        clear hL hc1
        have L5X : Lv Nob w X w5 := (LV.gone L5).drop.drop
        rw [HXX.out] at L5X
        obtain ⟨S5, h5, _⟩ := L5X.first
        have q0 := h5.cell (j := 0) rfl
        have q1 := h5.cell (j := 1) rfl
        have hl5 : Loc (Star (rowA tStr 1 (.slice ao5 28 c5) 28 (strs (mapH 28 H))) X) := loc_star (loc_row _ _ _ _ _) hlX
        clear h5 L5X
        go_wp2_with fail
        refine (sets_calls HT.out L5 hl5 HI.out.ok).mono ?_
        rintro e w6 ⟨rfl, L6⟩
        clear L5 q0 q1
        obtain ⟨e1, e2⟩ := setsL_D L last.pairs
        have E1 := Lib.hid e1
        have E2 := Lib.hid e2
        clear e1 e2
        go_wp2_with fail
        refine (calm_homes (m := 28) (H := H) L6 hl5 (by rw [E1.out]; exact HI.out.calm) (by rw [E2.out]; exact HI.out.dead)).mono ?_
        rintro e w7 ⟨ao7, c7, rfl, L7⟩
        clear L6
        obtain ⟨Y, hY⟩ : ∃ Y, Y = Star (rowA tStr 1 (.slice ao7 28 c7) 28 (strs (mapH 28 (over H (setsL L last.pairs).stg)))) (Star (rowA tStr 1 (.slice ao5 28 c5) 28 (strs (mapH 28 H))) X) := ⟨_, rfl⟩
        have HY := Lib.hid hY
        have hlY : Loc Y := by rw [hY]; exact loc_star (loc_row _ _ _ _ _) hl5
        rw [← hY] at L7
        clear hY hl5
        have hq : ∃ q : Nat, (p < 0 ∧ q = 0) ∨ p = (q : Int) := by
          by_cases h : p < 0
          · exact ⟨0, .inl ⟨h, rfl⟩⟩
          · exact ⟨p.toNat, .inr (by omega)⟩
        obtain ⟨q, hq⟩ := hq
        have hqm : (q : Int) ≤ 9223372036854775807 := by
          have := HP.out
          rcases hq with ⟨_, rfl⟩ | h
          · decide
          · omega
        have HQM := Lib.hid hqm
        obtain ⟨eC, R, F, hwl⟩ := whole_left HI.out (by omega) last.pairs q
        obtain ⟨w1', w2', w3', w4', w5', w6'⟩ := hwl
        have W1 := Lib.hid w1'
        have W2 := Lib.hid w2'
        have W3 := Lib.hid w3'
        have W4 := Lib.hid w4'
        have W5 := Lib.hid w5'
        have W6 := Lib.hid w6'
        have hcw : (((setsL L last.pairs).D.setPower q).wait.length + 70) * 24 ≤ 140737488355328 := by
          show ((setsL L last.pairs).D.wait.length + 70) * 24 ≤ _
          rw [E1.out, HI.out.calm.wait]; simp
        have HCW := Lib.hid hcw
        clear hqm w1' w2' w3' w4' w5' w6' hcw
        rcases hq with ⟨hneg, rfl⟩ | rfl
        all_goals
          go_wp2_with fail
          refine (lv_disk L7 hlY (d_power _ HQM.out)).mono ?_
          rintro e w8 ⟨rfl, L8⟩
          clear L7
          go_wp2_with fail
          refine (lv_commit L8 hlY (setsL_good HI.out.ok last.pairs) HCW.out).mono ?_
          rintro e w9 ⟨he, L9⟩
          rw [W1.out] at he
          subst he
          have L10 := L9.gone
          clear L8 L9
          have hR1 : ∃ D, R D ∧ D.wait.length ≤ 100 ∧ Lv Nob w (Star (dskA kD d D) Y) w9 := ⟨_, W4.out, W5.out, L10⟩
          clear L10
          go_wp2_with fail
          go_loopw [15] (fun s15 wr => ∃ k : Nat, k ≤ nK ∧ s15 = .int .i64 k ∧ ∃ D, R D ∧ D.wait.length ≤ 100 ∧ Lv Nob w (Star (dskA kD d D) Y) wr) (fun s15 _ => nK - (intOf s15).toNat)
          case atStart => exact ⟨0, Nat.zero_le _, rfl, hR1⟩
          case round =>
            obtain ⟨j, hj, rfl, D, hR, hDw, hL⟩ := hrel
            have HR := Lib.hid hR
            have HDW := Lib.hid hDw
            clear hR1 hR hDw
            have hgo : (j < nK ∧ j < 20) ∨ ¬ (j < nK ∧ j < 20) := Classical.em _
            rcases hgo with ⟨hlt, h20⟩ | hno
            · obtain ⟨κ, hκ⟩ : ∃ κ, keep[j]? = some κ := ⟨_, List.getElem?_eq_getElem (by rw [← HNK.out]; exact hlt)⟩
              obtain ⟨g, off, rfl, q0'⟩ := HK.out.at (j := j) (u := .int .u64 κ) (by simp [u64s, hκ])
              have q0 := hL.fr.cell q0' (fun h => h)
              have hκu := HKU.out κ (List.mem_of_getElem? hκ)
              have HKK := Lib.hid hκu
              have hq1 := hL.fr
              clear hκ hκu
              go_wp2_with fail
              refine (hL.op ((d_crash κ HKK.out (by have := HDW.out; omega)).left hlY)).mono ?_
              rintro e w12 ⟨rfl, L12⟩
              clear hL
              have q2 := L12.fr.cell q0' (fun h => h)
              clear q0 q0' hq1
              go_wp2_with fail
              have hm7 : (κ : Int) % 7 = ((κ % 7 : Nat) : Int) := by omega
              have HM7 := Lib.hid hm7
              clear hm7 q2
              refine (L12.op ((d_power ((κ : Int) % 7) (by omega)).left hlY)).mono ?_
              rintro e w13 ⟨rfl, L13⟩
              rw [HM7.out] at L13
              clear L12
              go_wp2_with fail
              refine (lv_opens_any L13 hlY (by show (0 + 31) * 24 ≤ _; decide)).mono ?_
              rintro e w14 ⟨⟨v14, rfl⟩, L14⟩
              clear L13
              go_wp2_with fail
              go_roundw
              case rel =>
                obtain ⟨s1, s2⟩ := W3.out.step D κ (κ % 7) HR.out
                exact ⟨j + 1, hlt, by go_num, _, s1, s2, L14⟩
              case measure => simp [intOf]; omega
            · have hcases : (j < nK ∧ 20 ≤ j) ∨ nK ≤ j := by omega
              clear hno
              have hfin := W3.out.fin D HR.out
              obtain ⟨f1, H2, f2, f3⟩ := hfin
              have F1 := Lib.hid f1
              have F2 := Lib.hid (W6.out H2 f2)
              have F3 := Lib.hid f3
              clear f1 f2 f3
              rcases hcases with ⟨hd1, hd2⟩ | hd1
              all_goals
                go_wp2_with fail
                refine (hL.op ((d_crash 0 (by decide) (by have := HDW.out; omega)).left hlY)).mono ?_
                rintro e w15 ⟨rfl, L15⟩
                clear hL hd1
                go_wp2_with fail
                refine (lv_opens L15 hlY F1.out (by show (0 + 31) * 24 ≤ _; decide)).mono ?_
                rintro e w16 ⟨bm, rfl, L16⟩
                clear L15
                go_wp2_with fail
                refine (calm_homes (m := 28) (H := H2) L16 hlY F3.out rfl).mono ?_
                rintro e w17 ⟨ao17, c17, rfl, L17⟩
                have e17 : over H2 (LSt.mk (D.crash 0).opened [] false).stg = H2 := over_nil H2
                rw [e17] at L17
                clear L16 e17
                have L18 : Lv Nob w (Star (rowA tStr 1 (.slice ao17 28 c17) 28 (strs (mapH 28 H2))) (Star (rowA tStr 1 (.slice ao7 28 c7) 28 (strs (mapH 28 (over H (setsL L last.pairs).stg)))) (Star (rowA tStr 1 (.slice ao5 28 c5) 28 (strs (mapH 28 H))) X))) w17 := by
                  have := (LV.gone L17).drop
                  rw [HY.out] at this
                  exact this
                clear L17
                have hl18 : Loc (Star (rowA tStr 1 (.slice ao17 28 c17) 28 (strs (mapH 28 H2))) (Star (rowA tStr 1 (.slice ao7 28 c7) 28 (strs (mapH 28 (over H (setsL L last.pairs).stg)))) (Star (rowA tStr 1 (.slice ao5 28 c5) 28 (strs (mapH 28 H))) X))) := loc_star (loc_row _ _ _ _ _) (loc_star (loc_row _ _ _ _ _) (loc_star (loc_row _ _ _ _ _) hlX))
                obtain ⟨bo, hbo⟩ : ∃ bo, bo = decide (mapH 28 H2 = mapH 28 H) := ⟨_, rfl⟩
                obtain ⟨bn, hbn⟩ : ∃ bn, bn = decide (mapH 28 H2 = mapH 28 (over H (setsL L last.pairs).stg)) := ⟨_, rfl⟩
                have hres : (eC = 0 ∧ bn = true) ∨ (eC = 7 ∧ bo = true) ∨ (eC = 7 ∧ bo = false ∧ bn = true) := by
                  have hnew : H2 = over H (setsL L last.pairs).stg → bn = true := fun h => by rw [hbn, h]; exact decide_eq_true rfl
                  rcases F2.out with h | ⟨h7, h⟩
                  · rcases W2.out with h0 | h7
                    · exact .inl ⟨h0, hnew h⟩
                    · cases hb : bo with
                      | true => exact .inr (.inl ⟨h7, rfl⟩)
                      | false => exact .inr (.inr ⟨h7, rfl, hnew h⟩)
                  · exact .inr (.inl ⟨h7, by rw [hbo, h]; exact decide_eq_true rfl⟩)
                have HBO := Lib.hid hbo
                have HBN := Lib.hid hbn
                have HRES := Lib.hid hres
                clear hbo hbn hres
                go_wp2_with fail
                have L18' := L18
                obtain ⟨_, ⟨_, _, r1, ⟨_, _, r2, ⟨_, _, r3, _⟩, _⟩, _⟩, _⟩ := L18'
                refine (L18.calls hl18 (same_n (mapH_length _ _) (mapH_length _ _) (by decide) r1.1 r3.1)).mono ?_
                rintro e w18 ⟨he, L19⟩
                rw [← HBO.out] at he
                subst he
                clear r1 r2 r3
                go_wp2_with fail
                have L19' := L19
                obtain ⟨_, ⟨_, _, r1, ⟨_, _, r2, _⟩, _⟩, _⟩ := L19'
                refine (L19.calls hl18 (same_n (mapH_length _ _) (mapH_length _ _) (by decide) r1.1 r2.1)).mono ?_
                rintro e w19 ⟨he, L20⟩
                rw [← HBN.out] at he
                subst he
                have HFR := Lib.hid L20.fr
                have hres := HRES.out
                clear r1 r2 L18 L19 L20 HBO HBN HRES W1 W2 W3 W4 W5 W6 F1 F2 F3
                rcases hres with ⟨rfl, rfl⟩ | ⟨rfl, rfl⟩ | ⟨rfl, rfl, rfl⟩
                all_goals
                  go_wp2_with fail
                  go_ret
                  exact ⟨rfl, HFR.out⟩
end Go.Proofs.Ytchilnjocnkodaa
