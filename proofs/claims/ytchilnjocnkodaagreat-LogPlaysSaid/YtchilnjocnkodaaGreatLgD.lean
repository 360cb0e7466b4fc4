/- The log: Open. -/
import Derived.Test.YtchilnjocnkodaaGreatLgC
namespace Go.Proofs.YtchilnjocnkodaaGreat
open Go.RowKit

theorem write_zero {D : DSt} {i : Int} {s : ByteArray} (h : D.writeE i s = 0) : D.off = false ∧ D.write i s = { D.pay with wait := D.wait ++ [(i.toNat, s)] } := by
  unfold DSt.writeE at h
  unfold DSt.write
  split at h
  · cases h
  · rename_i h1
    split at h
    · cases h
    · rename_i h2
      split at h
      · cases h
      · rename_i h3
        rw [if_neg h1, if_neg h2, if_neg h3]
        exact ⟨by simpa using h1, rfl⟩
/-- Writing home leaves what the log holds. -/
theorem homeA_sec {D : DSt} {l : Stg} (h0 : D.off = false) (h : D.actsE (homeA l) = 0) : (D.acts (homeA l)).off = false ∧ (D.acts (homeA l)).safe = D.safe ∧ ∀ j, j < 32 → (D.acts (homeA l)).sec j = D.sec j := by
  induction l generalizing D with
  | nil => exact ⟨h0, rfl, fun _ _ => rfl⟩
  | cons x l ih =>
    have e1 : D.actsE (homeA (x :: l)) = if D.writeE ((32 + x.1 : Nat) : Int) x.2 = 0 then (D.write ((32 + x.1 : Nat) : Int) x.2).actsE (homeA l) else D.writeE ((32 + x.1 : Nat) : Int) x.2 := rfl
    have e2 : D.acts (homeA (x :: l)) = if D.writeE ((32 + x.1 : Nat) : Int) x.2 = 0 then (D.write ((32 + x.1 : Nat) : Int) x.2).acts (homeA l) else D.write ((32 + x.1 : Nat) : Int) x.2 := rfl
    by_cases hE : D.writeE ((32 + x.1 : Nat) : Int) x.2 = 0
    · rw [e1, if_pos hE] at h
      rw [e2, if_pos hE]
      obtain ⟨_, hw⟩ := write_zero hE
      have ho : (D.write ((32 + x.1 : Nat) : Int) x.2).off = false := by rw [hw]; exact h0
      obtain ⟨h1, h2, h3⟩ := ih ho h
      refine ⟨h1, by rw [h2, hw]; rfl, fun j hj => ?_⟩
      rw [h3 j hj, hw]
      rw [DSt.sec_eq, DSt.sec_eq]
      show ((lastOf (D.wait ++ [(_, x.2)]) j).or D.safe[j]?).getD _ = _
      rw [lastOf_snoc, if_neg (by simp; omega)]
    · rw [e1, if_neg hE] at h
      exact absurd h hE

theorem open_none {D : DSt} (h : D.readE 1 = 0) (hP : homesP (D.readS 1) ((D.safe.length : Int) - 32) = none) : D.openE = 6 ∧ D.opened = D := by
  unfold DSt.openE DSt.opened
  rw [if_neg (by simpa using h), if_neg (by simpa using h), hP]
  exact ⟨rfl, rfl⟩
theorem open_some {D : DSt} {l : List Nat} (h : D.readE 1 = 0) (hP : homesP (D.readS 1) ((D.safe.length : Int) - 32) = some l) :
    D.openE = (if l = [] then 0 else D.actsE (installA (D.held l))) ∧ D.opened = (if l = [] then D else D.acts (installA (D.held l))) := by
  have hn : ¬ D.readE 1 ≠ 0 := by simpa using h
  unfold DSt.openE DSt.opened
  rw [if_neg hn, if_neg hn, hP]
  exact ⟨rfl, rfl⟩
theorem held_get {D : DSt} {l : List Nat} {k : Nat} {x : Nat × ByteArray} (h : (D.held l)[k]? = some x) : l[k]? = some x.1 ∧ x.2 = D.sec (2 + k) := by
  unfold DSt.held at h
  rw [List.getElem?_map, Option.map_eq_some_iff] at h
  obtain ⟨p, hp, rfl⟩ := h
  rw [List.getElem?_zipIdx] at hp
  rw [Option.map_eq_some_iff] at hp
  obtain ⟨a, ha, rfl⟩ := hp
  exact ⟨ha, by simp⟩
theorem held_keys (D : DSt) (l : List Nat) : keys (D.held l) = l := by
  unfold keys DSt.held
  rw [List.map_map, show ((fun x : Nat × ByteArray => x.1) ∘ fun p : Nat × Nat => (p.1, D.sec (2 + p.2))) = Prod.fst from rfl, List.zipIdx_map_fst]
theorem held_length (D : DSt) (l : List Nat) : (D.held l).length = l.length := by unfold DSt.held; simp

section
variable {S0 : Nat → Prop} {w0 w : World} {d : Nat} {D : DSt} {B : Asr}

set_option maxRecDepth 100000 in
set_option maxHeartbeats 400000 in
theorem open1_calls {c : Nat} {S : Nat → Prop} {k : Nat} (hd : IsDisk w d S D) (hc : w.cell? ⟨c, 0, none⟩ = some (.pointer (some ⟨d, 0, none⟩))) (h0 : D.off = false) (hk : k < 30) (hw : D.wait.length * 24 ≤ 140737488355328) :
    Calls Tryz.prog 32 #[.int .i64 (k : Int), .pointer (some ⟨c, 0, none⟩)] w fun e w' => e = .returned (.tuple #[.string (D.sec (2 + k)), .int .i64 0]) ∧ Fr Nob w w' := by
  have hlo : 48 ≤ D.safe.length := by obtain ⟨_, _, _, _, h⟩ := hd; exact h.ok.lo48
  have hr := DSt.read_on h0 (i := 2 + (k : Int)) (by omega) (by omega)
  rw [show (2 + (k : Int)).toNat = 2 + k by omega] at hr
  have HR := Lib.hid hr
  have HC := Lib.hid (dread_calls hd (2 + (k : Int)) hw)
  clear hd h0 hlo hr hw
  go_enter Tryz.func32, Tryz.ntmps32
  go_wp2_with fail
  refine HC.out.mono ?_
  rw [HR.out.1, HR.out.2]
  rintro e w1 ⟨rfl, hf⟩
  go_wp2_with fail
  go_ret2
  exact ⟨rfl, hf⟩

/-- What Open answers. -/
def OpenRet (S0 : Nat → Prop) (w0 : World) (d : Nat) (D : DSt) (B : Asr) (e : Ending) (w' : World) : Prop :=
  (D.openE ≠ 0 ∧ e = .returned (.tuple #[.pointer none, .int .i64 D.openE]) ∧ Lv S0 w0 (Star (dskA kD d D.opened) B) w') ∨
  (D.openE = 0 ∧ ∃ b, e = .returned (.tuple #[.pointer (some ⟨b, 0, none⟩), .int .i64 0]) ∧ Lv S0 w0 (Star (dskA kD d D.opened) (Star (lgA b d [] false) B)) w')

/-- The new log. -/
theorem lg_new {E : DSt} (hL : Lv S0 w0 (Star (dskA kD d E) B) w) (hB : Loc B) :
    Lv S0 w0 (Star (dskA kD d E) (Star (lgA (w.heap.size + 1) d [] false) B)) ((w.alloc (.map #[] 0)).alloc (.cells #[.pointer (some ⟨d, 0, none⟩), .map (some w.heap.size), .bool false] tLog)) := by
  have h1 := mp_new w
  have hf : Fr Nob w ((w.alloc (.map #[] 0)).alloc (.cells #[.pointer (some ⟨d, 0, none⟩), .map (some w.heap.size), .bool false] tLog)) := ((Fr.refl _ _).alloc _).alloc _
  have h2 : lgA (w.heap.size + 1) d [] false ((w.alloc (.map #[] 0)).alloc (.cells #[.pointer (some ⟨d, 0, none⟩), .map (some w.heap.size), .bool false] tLog)) (Plus Nob w ((w.alloc (.map #[] 0)).alloc (.cells #[.pointer (some ⟨d, 0, none⟩), .map (some w.heap.size), .bool false] tLog))) := by
    refine ⟨w.heap.size, ?_, h1.fr ((Fr.refl Nob _).alloc _) (fun h => h), .inr ⟨by omega, by simp⟩, .inr ⟨Nat.le_refl _, by simp; omega⟩⟩
    have := Blk.new (w.alloc (.map #[] 0)) tLog [.pointer (some ⟨d, 0, none⟩), .map (some w.heap.size), .bool false]
    rw [World.size_alloc] at this
    exact this
  exact (hL.new (loc_star (loc_dsk _ _ _) hB) hf h2).map (fun U h => by
    have h1 := star_assoc' h
    exact star_assoc (star_left h1 (fun _ h => star_swap h)))

set_option maxRecDepth 100000 in
set_option maxHeartbeats 4000000 in
theorem open_calls (hL : Lv S0 w0 (Star (dskA kD d D) B) w) (hB : Loc B) (hw : (D.wait.length + 31) * 24 ≤ 140737488355328) :
    Calls Tryz.prog 6 #[.pointer (some ⟨d, 0, none⟩)] w (OpenRet S0 w0 d D B) := by
  have HW := Lib.hid hw
  obtain ⟨S1, hd0⟩ := hL.first
  have hokD : D.Ok := by obtain ⟨_, _, _, _, h⟩ := hd0; exact h.ok
  have HOK := Lib.hid hokD
  have hlo := hokD.lo48
  have hhi := hokD.len
  have hBb : Loc (Star (dskA kD d D) B) := loc_star (loc_dsk _ _ _) hB
  have L1 := hL.box hBb 25 [.pointer (some ⟨d, 0, none⟩)]
  clear hL hd0 hokD hw
  go_enter Tryz.func6, Tryz.ntmps6
  go_wp2_with fail
  obtain ⟨S1, hd1⟩ := L1.second
  obtain ⟨S2, _, hd2, _⟩ := hd1
  refine (L1.calls (loc_star (loc_blk _ _ _) hBb) (dread_calls hd2 1 (by have := HW.out; omega))).mono ?_
  rintro e w2 ⟨rfl, L2⟩
  clear L1 hd2
  obtain ⟨S3, h3⟩ := L2.first
  have c0 := h3.1.cell (j := 0) rfl
  clear h3
  by_cases hE : D.readE 1 = 0
  · have ho : D.off = false := by
      unfold DSt.readE at hE
      split at hE
      · cases hE
      · rename_i h; simpa using h
    have hr := DSt.read_on ho (i := 1) (by omega) (by omega)
    have hz : (D.readS 1).size = 64 := by rw [hr.1]; exact (by
      rcases D.sec_cases (i := 1) (by omega) with ⟨s, h1, h2, _⟩ | ⟨s, h1, h2, _⟩
      · rw [show (1 : Int).toNat = 1 from rfl, h2]; exact HOK.out.size s (List.mem_of_getElem? h1)
      · rw [show (1 : Int).toNat = 1 from rfl, h2]; exact HOK.out.wsize _ h1)
    have hE' : (D.readE 1 == 0) = true := by rw [beq_iff_eq]; exact hE
    have HE0 := Lib.hid hE
    have HO := Lib.hid ho
    clear hE hr ho
    go_wp2_with fail
    obtain ⟨S1, hd1⟩ := L2.second
    obtain ⟨S2, _, hd2, _⟩ := hd1
    refine (sectors_calls hd2).mono ?_
    rintro e w3 ⟨rfl, rfl⟩
    clear hd2
    go_wp2_with fail
    refine (homes_calls hz ((D.safe.length : Int) - 32) w2).mono ?_
    rintro e w3 ⟨hf3, v3, rfl, hrow⟩
    have L3 := L2.keep (loc_star (loc_blk _ _ _) hBb) hf3
    have L2' := L2
    have c3 := hf3.cell c0 (fun h => h)
    clear L2 hz c0
    cases hP : homesP (D.readS 1) ((D.safe.length : Int) - 32) with
    | none =>
      obtain ⟨eO, eD⟩ := open_none HE0.out hP
      have L4 := L3.drop
      have HR : Hid (OpenRet S0 w0 d D B (.returned (.tuple #[.pointer none, .int .i64 6])) w3) := (show OpenRet S0 w0 d D B (.returned (.tuple #[.pointer none, .int .i64 6])) w3 from .inl ⟨by rw [eO]; decide, by rw [eO], by rw [eD]; exact L4⟩)
      clear L3 L4 hrow hf3 eO eD hP
      simp only [Option.isSome_none]
      go_wp2_with fail
      go_ret2
      exact HR.out
    | some l =>
      obtain ⟨eO, eD⟩ := open_some HE0.out hP
      obtain ⟨hl30, hri, hlt, _⟩ := homesP_some hP
      obtain ⟨hown, hnew⟩ := hrow l hP
      obtain ⟨ao, c, rfl⟩ := row_any hown
      have EO := Lib.hid eO
      have ED := Lib.hid eD
      clear hrow hP eO eD
      simp only [Option.isSome_some]
      by_cases hl0 : l = []
      · subst hl0
        have L4 := L3.drop
        rw [if_pos rfl] at EO ED
        have L4' : Lv S0 w0 (Star (dskA kD d D.opened) B) w3 := by rw [ED.out]; exact L4
        have L5 := lg_new L4' hB
        have HR : Hid (OpenRet S0 w0 d D B (.returned (.tuple #[.pointer (some ⟨w3.heap.size + 1, 0, none⟩), .int .i64 0])) ((w3.alloc (.map #[] 0)).alloc (.cells #[.pointer (some ⟨d, 0, none⟩), .map (some w3.heap.size), .bool false] tLog))) :=
          (show OpenRet S0 w0 d D B (.returned (.tuple #[.pointer (some ⟨w3.heap.size + 1, 0, none⟩), .int .i64 0])) ((w3.alloc (.map #[] 0)).alloc (.cells #[.pointer (some ⟨d, 0, none⟩), .map (some w3.heap.size), .bool false] tLog)) from .inr ⟨EO.out, _, rfl, L5⟩)
        have hmm := @run_makeMap Tryz.prog
        clear L3 L4 L4' L5 hown hnew hf3
        go_wp2_with fail
        go_ret2
        exact HR.out
      · have hpos : (0 : Int) < (l.length : Int) := by have := List.length_pos_iff.2 hl0; omega
        rw [if_neg hl0] at EO ED
        have HLT := Lib.hid hlt
        have L4 : Lv S0 w0 (Star (dskA kD d D) (Star (rowA tIntE 1 (.slice ao (D.held l).length c) (D.held l).length (nums (keys (D.held l)))) (Star (blkA w.heap.size 25 [.pointer (some ⟨d, 0, none⟩)]) B))) w3 := by
          rw [held_length, held_keys]
          have := L2'.new (B := rowA tIntE 1 (.slice ao l.length c) l.length (nums l)) (loc_star (loc_blk _ _ _) hBb) hf3 ⟨hown, fun k hk => .inr ⟨hnew k hk, (hown.lt k hk).2⟩⟩
          exact this.map (fun U h => by
            obtain ⟨S, T, h1, ⟨S', T', h2, ⟨S'', T'', h3, h4, e1, e2, e3⟩, f1, f2, f3⟩, g1, g2, g3⟩ := h
            refine ⟨S'', fun k => S k ∨ S' k ∨ T'' k, h3, ⟨S, fun k => S' k ∨ T'' k, h1, ⟨S', T'', h2, h4, fun k hk ht => f1 k hk (e3 k ht), fun k hk => .inl hk, fun k hk => .inr hk⟩, ?_, fun k hk => .inl hk, fun k hk => .inr hk⟩, ?_, fun k hk => g3 k (f3 k (e2 k hk)), ?_⟩
            · rintro k hk (h | h)
              · exact g1 k hk (f2 k h)
              · exact g1 k hk (f3 k (e3 k h))
            · rintro k hk (h | h | h)
              · exact g1 k h (f3 k (e2 k hk))
              · exact f1 k h (e2 k hk)
              · exact e1 k hk h
            · rintro k (h | h | h)
              · exact g2 k h
              · exact g3 k (f2 k h)
              · exact g3 k (f3 k (e3 k h)))
        have HI := Lib.hid (install_calls (g := 32) (caps := #[.pointer (some ⟨w.heap.size, 0, none⟩)]) (enters_of Tryz.func32 (by kernel_rfl) rfl) L4 (loc_star (loc_blk _ _ _) hB) (by rw [held_length]; exact hl30) (by
          intro x hx
          have h1 : x.1 ∈ keys (D.held l) := List.mem_map.2 ⟨x, hx, rfl⟩
          rw [held_keys] at h1
          have := hlt _ h1
          omega) HW.out (by
          intro k x wr hx hE0 hLr
          obtain ⟨h1, h2⟩ := held_get hx
          obtain ⟨q1, q2, q3⟩ := homeA_sec HO.out hE0
          obtain ⟨S5, h5⟩ := hLr.first
          obtain ⟨T6, S6, S7, _, ⟨S8, S9, h8, _⟩, _⟩ := hLr.second
          have hkl : k < l.length := (List.getElem?_eq_some_iff.1 h1).1
          have hwk := homeA_wait D ((D.held l).take k)
          rw [List.length_take] at hwk
          have hc := open1_calls (k := k) h5 (h8.1.cell (j := 0) rfl) q1 (by omega) (by have := HW.out; omega)
          rw [q3 (2 + k) (by omega), ← h2] at hc
          exact hc))
        rw [held_length] at HI
        clear L3 L4 hown hnew hf3 L2'
        go_wp2_with fail
        refine HI.out.mono ?_
        rintro e w4 ⟨rfl, L5⟩
        have c4 : w4.cell? ⟨w.heap.size, 0, none⟩ = some (.pointer (some ⟨d, 0, none⟩)) := by
          obtain ⟨T6, S6, S7, _, ⟨S8, S9, h8, _⟩, _⟩ := L5.second
          exact h8.1.cell (j := 0) rfl
        have L6 : Lv S0 w0 (Star (dskA kD d D.opened) B) w4 := by
          rw [ED.out]
          exact L5.map (fun U h => by
            obtain ⟨S, T, h1, ⟨S', T', _, ⟨S'', T'', _, h4, _, _, e3⟩, _, _, f3⟩, g1, g2, g3⟩ := h
            exact ⟨S, T'', h1, h4, fun k hk ht => g1 k hk (f3 k (e3 k ht)), g2, fun k hk => g3 k (f3 k (e3 k hk))⟩)
        clear L5 HI c3
        by_cases hE : D.actsE (installA (D.held l)) = 0
        · have hE2 : (D.actsE (installA (D.held l)) == 0) = true := by rw [beq_iff_eq]; exact hE
          have L7 := lg_new L6 hB
          have HR : Hid (OpenRet S0 w0 d D B (.returned (.tuple #[.pointer (some ⟨w4.heap.size + 1, 0, none⟩), .int .i64 0])) ((w4.alloc (.map #[] 0)).alloc (.cells #[.pointer (some ⟨d, 0, none⟩), .map (some w4.heap.size), .bool false] tLog))) :=
            (show OpenRet S0 w0 d D B (.returned (.tuple #[.pointer (some ⟨w4.heap.size + 1, 0, none⟩), .int .i64 0])) ((w4.alloc (.map #[] 0)).alloc (.cells #[.pointer (some ⟨d, 0, none⟩), .map (some w4.heap.size), .bool false] tLog)) from .inr ⟨EO.out.trans hE, _, rfl, L7⟩)
          have hmm := @run_makeMap Tryz.prog
          clear L6 L7 hE
          go_wp2_with fail
          go_ret2
          exact HR.out
        · have hE2 : (D.actsE (installA (D.held l)) == 0) = false := by rw [beq_eq_false_iff_ne]; exact hE
          have HR : Hid (OpenRet S0 w0 d D B (.returned (.tuple #[.pointer none, .int .i64 (D.actsE (installA (D.held l)))])) w4) :=
            (show OpenRet S0 w0 d D B (.returned (.tuple #[.pointer none, .int .i64 (D.actsE (installA (D.held l)))])) w4 from .inl ⟨by rw [EO.out]; exact hE, by rw [EO.out], L6⟩)
          clear L6 hE
          go_wp2_with fail
          go_ret2
          exact HR.out
  · have hE' : (D.readE 1 == 0) = false := by rw [beq_eq_false_iff_ne]; exact hE
    have eO : D.openE = D.readE 1 := by unfold DSt.openE; rw [if_pos hE]
    have eD : D.opened = D := by unfold DSt.opened; rw [if_pos hE]
    have L3 := L2.drop
    have HR : Hid (OpenRet S0 w0 d D B (.returned (.tuple #[.pointer none, .int .i64 (D.readE 1)])) w2) := (show OpenRet S0 w0 d D B (.returned (.tuple #[.pointer none, .int .i64 (D.readE 1)])) w2 from .inl ⟨by rw [eO]; exact hE, by rw [eO], by rw [eD]; exact L3⟩)
    clear L2 L3 hE eO eD
    go_wp2_with fail
    go_ret2
    exact HR.out
end
end Go.Proofs.YtchilnjocnkodaaGreat
