/- The document's log as it lies in memory; Open. The document's log: Home, may, Get, Staged, Abort. The document's log: Set. -/
import Derived.Test.YtchilnjocnkodaaGreatMRlA
namespace Go.Proofs.YtchilnjocnkodaaGreat
open Go.RowKit

abbrev tRLog : Nat := 71
abbrev tRRow : Nat := 102
def cellsR (x : Nat × ByteArray) : List Value := [.int .i64 (x.1 : Int), .string x.2]
def flatR (l : Stg) : List Value := l.flatMap cellsR
theorem flatR_length (l : Stg) : (flatR l).length = l.length * 2 := by
  unfold flatR
  induction l with
  | nil => rfl
  | cons x l ih => rw [List.flatMap_cons, List.length_append, ih, List.length_cons]; simp [cellsR]; omega
theorem flatR_get {l : Stg} {k : Nat} {x : Nat × ByteArray} (hx : l[k]? = some x) (j : Nat) (hj : j < 2) : (flatR l)[k * 2 + j]? = (cellsR x)[j]? := by
  unfold flatR
  induction l generalizing k with
  | nil => simp at hx
  | cons y l ih =>
    rw [List.flatMap_cons]
    cases k with
    | zero =>
      simp at hx; subst hx
      rw [List.getElem?_append_left (by simp [cellsR]; omega)]
      simp
    | succ k =>
      rw [List.getElem?_append_right (by simp [cellsR]; omega)]
      have := ih (k := k) (by simpa using hx)
      rw [← this]
      congr 1
      simp [cellsR]; omega
theorem flatR_one (l : Stg) : ∀ u ∈ flatR l, u.oneCell' = true := by
  intro u hu
  obtain ⟨x, _, hu⟩ := List.mem_flatMap.1 hu
  simp [cellsR] at hu
  rcases hu with rfl | rfl <;> rfl
/-- Block b is the document's log of the disk d. -/
def rlA (b d : Nat) (stg : Stg) (dead : Bool) : Asr := fun w S => ∃ ao c, Blk w b tRLog [.pointer (some ⟨d, 0, none⟩), .slice ao stg.length c, .bool dead] ∧ w.ownsRow 0 tRRow 2 (.slice ao stg.length c) stg.length (flatR stg) ∧ S b ∧ ∀ k, (Value.slice ao stg.length c).ownBlock = some k → S k
theorem loc_rl (b d : Nat) (stg : Stg) (dead : Bool) : Loc (rlA b d stg dead) := by
  rintro w w' S T ⟨ao, c, h1, h2, h3, h4⟩ hf hT
  exact ⟨ao, c, h1.fr hf (hT _ h3), row_fr h2 hf (fun k hk => hT k (h4 k hk)), h3, h4⟩

def ROpenRet (S0 : Nat → Prop) (w0 : World) (d : Nat) (D : DSt) (B : Asr) (e : Ending) (w' : World) : Prop :=
  (D.openE ≠ 0 ∧ e = .returned (.tuple #[.pointer none, .int .i64 D.openE]) ∧ Lv S0 w0 (Star (dskA kR d D.opened) B) w') ∨
  (D.openE = 0 ∧ ∃ b, e = .returned (.tuple #[.pointer (some ⟨b, 0, none⟩), .int .i64 0]) ∧ Lv S0 w0 (Star (rlA b d [] false) (Star (dskA kR d D.opened) B)) w')

section
variable {S0 : Nat → Prop} {w0 w : World} {d : Nat} {D : DSt} {B : Asr}
theorem rl_new {E : DSt} (hL : Lv S0 w0 (Star (dskA kR d E) B) w) (hB : Loc B) :
    Lv S0 w0 (Star (rlA w.heap.size d [] false) (Star (dskA kR d E) B)) (w.alloc (.cells #[.pointer (some ⟨d, 0, none⟩), .slice none 0 0, .bool false] tRLog)) := by
  refine hL.new (loc_star (loc_dsk _ _ _) hB) ((Fr.refl _ _).alloc _) ⟨none, 0, ?_, World.ownsRow_nil _ _ _ _, .inr ⟨Nat.le_refl _, by simp⟩, fun k hk => by cases hk⟩
  exact Blk.new w tRLog [.pointer (some ⟨d, 0, none⟩), .slice none 0 0, .bool false]
theorem held_vals {l : List Nat} {k : Nat} (hk : k < l.length) : (vals (D.held l))[k]? = some (D.sec (2 + k)) := by
  unfold vals DSt.held
  rw [List.getElem?_map, List.getElem?_map, List.getElem?_zipIdx, List.getElem?_eq_getElem hk]
  simp
theorem take_vals {l : List Nat} {k : Nat} (hk : k < l.length) : (vals (D.held l)).take (k + 1) = (vals (D.held l)).take k ++ [D.sec (2 + k)] := by
  rw [List.take_add_one, held_vals hk]; rfl
theorem vals_length (l : Stg) : (vals l).length = l.length := by simp [vals]
theorem safe_cell {S : Nat → Prop} {K : Kd} {b : Nat} {D : DSt} {w : World} (h : IsDsk K w b S D) : ∃ bs c, w.cell? ⟨b, 0, none⟩ = some (.slice (some ⟨bs, 0, none⟩) D.safe.length c) := by
  obtain ⟨bs, c, sp, wv, h⟩ := h
  exact ⟨bs, c, h.head.cell (j := 0) rfl⟩

set_option maxRecDepth 100000 in
set_option maxHeartbeats 4000000 in
theorem ropen_calls (hL : Lv S0 w0 (Star (dskA kR d D) B) w) (hB : Loc B) (hw : (D.wait.length + 31) * 24 ≤ 140737488355328) :
    Calls Tryz.prog 7 #[.pointer (some ⟨d, 0, none⟩)] w (ROpenRet S0 w0 d D B) := by
  have HW := Lib.hid hw
  obtain ⟨S1, hd0⟩ := hL.first
  have hokD : D.Ok := by obtain ⟨_, _, _, _, h⟩ := hd0; exact h.ok
  have HOK := Lib.hid hokD
  have hlo := hokD.lo48
  have hhi := hokD.len
  have hBb : Loc (Star (dskA kR d D) B) := loc_star (loc_dsk _ _ _) hB
  clear hd0 hokD hw
  go_enter Tryz.func7, Tryz.ntmps7
  go_wp2_with fail
  refine (hL.op ((r_read 1 (by have := HW.out; omega)).left hB)).mono ?_
  rintro e w2 ⟨he2, L2⟩
  clear hL
  by_cases hE : D.readE 1 = 0
  · have ho : D.off = false := by
      unfold DSt.readE at hE
      split at hE
      · cases hE
      · rename_i h; simpa using h
    have hr := DSt.read_on ho (i := 1) (by omega) (by omega)
    have hz : (D.readS 1).size = 64 := by rw [hr.1]; exact (by
      rcases D.sec_cases (i := 1) (by omega) with ⟨s, h1, h2, _⟩ | ⟨s, h1, h2, _⟩
      · rw [show (1 : Int).toNat = 1 from rfl, h2]; exact HOK.out.size s (List.mem_of_getElem? h1)
      · rw [show (1 : Int).toNat = 1 from rfl, h2]; exact HOK.out.wsize _ h1)
    rw [hE] at he2
    subst he2
    have HE0 := Lib.hid hE
    have HO := Lib.hid ho
    clear hE hr ho
    obtain ⟨S2, hd2⟩ := L2.first
    obtain ⟨bs, sc, c0⟩ := safe_cell hd2
    clear hd2
    have hw0 : IntKind.i64.wrap ((D.safe.length : Int) - 32) = (D.safe.length : Int) - 32 := by rw [IntKind.wrap_i64]; omega
    go_wp2_with fail
    refine (rhomes_calls hz ((D.safe.length : Int) - 32) w2).mono ?_
    rintro e w3 ⟨hf3, v3, rfl, hrow⟩
    have L2' := L2
    have L3 := L2.keep hBb hf3
    clear L2 hz c0
    cases hP : homesP (D.readS 1) ((D.safe.length : Int) - 32) with
    | none =>
      obtain ⟨eO, eD⟩ := open_none HE0.out hP
      have HR : Hid (ROpenRet S0 w0 d D B (.returned (.tuple #[.pointer none, .int .i64 6])) w3) := (show ROpenRet S0 w0 d D B (.returned (.tuple #[.pointer none, .int .i64 6])) w3 from .inl ⟨by rw [eO]; decide, by rw [eO], by rw [eD]; exact L3⟩)
      clear L3 L2' hrow hf3 eO eD hP
      simp only [Option.isSome_none]
      go_wp2_with fail
      go_ret2
      exact HR.out
    | some l =>
      obtain ⟨eO, eD⟩ := open_some HE0.out hP
      obtain ⟨hl30, hri, hlt, _⟩ := homesP_some hP
      obtain ⟨hown, hnew⟩ := hrow l hP
      obtain ⟨ao, c, rfl⟩ := row_any hown
      have EO := Lib.hid eO
      have ED := Lib.hid eD
      clear hrow hP eO eD
      simp only [Option.isSome_some]
      by_cases hl0 : l = []
      · subst hl0
        rw [if_pos rfl] at EO ED
        have L4' : Lv S0 w0 (Star (dskA kR d D.opened) B) w3 := by rw [ED.out]; exact L3
        have L5 := rl_new L4' hB
        have HR : Hid (ROpenRet S0 w0 d D B (.returned (.tuple #[.pointer (some ⟨w3.heap.size, 0, none⟩), .int .i64 0])) (w3.alloc (.cells #[.pointer (some ⟨d, 0, none⟩), .slice none 0 0, .bool false] tRLog))) :=
          (show ROpenRet S0 w0 d D B (.returned (.tuple #[.pointer (some ⟨w3.heap.size, 0, none⟩), .int .i64 0])) (w3.alloc (.cells #[.pointer (some ⟨d, 0, none⟩), .slice none 0 0, .bool false] tRLog)) from .inr ⟨EO.out, _, rfl, L5⟩)
        clear L3 L2' L4' L5 hown hnew hf3
        go_wp2_with fail
        go_ret2
        exact HR.out
      · obtain ⟨n, hn⟩ : ∃ n, n = l.length := ⟨_, rfl⟩
        have hpos : 0 < n := by have := List.length_pos_iff.2 hl0; omega
        rw [if_neg hl0] at EO ED
        have HLT := Lib.hid hlt
        have HN := Lib.hid hn
        have L4 := L2'.new (B := rowA tIntE 1 (.slice ao l.length c) l.length (nums l)) hBb hf3 ⟨hown, fun k hk => .inr ⟨hnew k hk, (hown.lt k hk).2⟩⟩
        have L5 : Lv S0 w0 (Star (dskA kR d D) (Star (rowA tIntE 1 (.slice ao n c) n (nums l)) B)) w3 := by
          rw [hn]; exact L4.map fun _ h => star_flip h
        rw [← hn] at hl30 ⊢
        have hBr : Loc (Star (rowA tIntE 1 (.slice ao n c) n (nums l)) B) := loc_star (loc_row _ _ _ _ _) hB
        have L6 : Lv S0 w0 (Star (rowA tStr 1 (.slice none 0 0) 0 (strs ((vals (D.held l)).take 0))) (Star (dskA kR d D) (Star (rowA tIntE 1 (.slice ao n c) n (nums l)) B))) w3 :=
          L5.new (loc_star (loc_dsk _ _ _) hBr) (Fr.refl _ _) ⟨World.ownsRow_nil _ _ _ _, fun k hk => (by cases hk)⟩
        clear L2' L3 L4 L5 hown hnew hf3 hn hl0 hlt
        go_wp2_with fail
        go_loopw [8, 9] (fun s8 s9 wr => ∃ k : Nat, k ≤ n ∧ s9 = .int .i64 k ∧ ∃ a2 c2, s8 = .slice a2 k c2 ∧ Lv S0 w0 (Star (rowA tStr 1 (.slice a2 k c2) k (strs ((vals (D.held l)).take k))) (Star (dskA kR d D) (Star (rowA tIntE 1 (.slice ao n c) n (nums l)) B))) wr) (fun _ s9 _ => n - (intOf s9).toNat)
        case atStart => exact ⟨0, Nat.zero_le _, rfl, none, 0, rfl, L6⟩
        case round =>
          obtain ⟨k, hk, rfl, a2, c2, rfl, hLk⟩ := hrel
          clear L6
          by_cases hlt : k < n
          · have hrd := DSt.read_on HO.out (i := 2 + (k : Int)) (by omega) (by omega)
            rw [show (2 + (k : Int)).toNat = 2 + k by omega] at hrd
            have HRD := Lib.hid hrd
            have hw2 : IntKind.i64.wrap (2 + (k : Int)) = 2 + (k : Int) := by rw [IntKind.wrap_i64]; omega
            clear hrd
            go_wp2_with fail
            have C1 := hLk.op (((r_read (2 + (k : Int)) (by have := HW.out; omega)).left hBr).right (loc_row _ _ _ _ _))
            rw [HRD.out.1, HRD.out.2] at C1
            refine C1.mono ?_
            clear C1
            rintro e w5 ⟨rfl, L7⟩
            obtain ⟨S7, h7, _⟩ := L7.first
            have HOW := Lib.hid h7
            clear hLk h7
            go_wp2_with (at_builtin; refine wpList_append_mine rfl (ho := rfl) (s := .tmp 49) (x := .tmp 51) Tryz.rowStr rfl (HOW.out.alloc _) rfl (srcs_one w5 _ _ 1 rfl) (by omega) ?_; intro v' w6 hown hf6 hv6 _; obtain ⟨g', cap', rfl⟩ := row_succ hown)
            go_roundw
            case rel =>
              have L8 := (L7.alloc (loc_star (loc_row _ _ _ _ _) (loc_star (loc_dsk _ _ _) hBr)) (.cells #[.string (D.sec (2 + k))] tStr)).turn (loc_star (loc_dsk _ _ _) hBr) (turn_append hown hf6 hv6)
              refine ⟨k + 1, hlt, by go_num, _, _, rfl, ?_⟩
              rw [take_vals (by rw [← HN.out]; exact hlt), show strs ((vals (D.held l)).take k ++ [D.sec (2 + k)]) = strs ((vals (D.held l)).take k) ++ [.string (D.sec (2 + k))] by simp [strs]]
              exact L8
            case measure => simp [intOf]; omega
          · obtain rfl : k = n := by omega
            have hkl : (vals (D.held l)).take k = vals (D.held l) := List.take_of_length_le (by rw [vals_length, held_length, HN.out]; omega)
            rw [hkl] at hLk
            have L9 : Lv S0 w0 (Star (dskA kR d D) (Star (rowA tIntE 1 (.slice ao k c) k (nums (keys (D.held l)))) (Star (rowA tStr 1 (.slice a2 k c2) k (strs (vals (D.held l)))) B))) wr := by
              rw [held_keys]
              exact hLk.map fun _ h => star_right (star_flip h) fun _ h => star_flip h
            have HI := Lib.hid (rinstall_calls (l := D.held l) (by rw [held_length]; exact HN.out) L9 hB hl30 (by
              intro x hx
              have h1 : x.1 ∈ keys (D.held l) := List.mem_map.2 ⟨x, hx, rfl⟩
              rw [held_keys] at h1
              have := HLT.out _ h1
              omega) HW.out)
            clear hLk L9 hkl
            go_wp2_with fail
            refine HI.out.mono ?_
            rintro e w7 ⟨rfl, L10⟩
            have L11 : Lv S0 w0 (Star (dskA kR d D.opened) B) w7 := by
              rw [ED.out]
              exact L10.map fun _ h => star_less (star_less h)
            clear L10 HI
            by_cases hE : D.actsE (installA (D.held l)) = 0
            · have hE2 : (D.actsE (installA (D.held l)) == 0) = true := by rw [beq_iff_eq]; exact hE
              have L12 := rl_new L11 hB
              have HR : Hid (ROpenRet S0 w0 d D B (.returned (.tuple #[.pointer (some ⟨w7.heap.size, 0, none⟩), .int .i64 0])) (w7.alloc (.cells #[.pointer (some ⟨d, 0, none⟩), .slice none 0 0, .bool false] tRLog))) :=
                (show ROpenRet S0 w0 d D B (.returned (.tuple #[.pointer (some ⟨w7.heap.size, 0, none⟩), .int .i64 0])) (w7.alloc (.cells #[.pointer (some ⟨d, 0, none⟩), .slice none 0 0, .bool false] tRLog)) from .inr ⟨EO.out.trans hE, _, rfl, L12⟩)
              clear L11 L12 hE
              go_wp2_with fail
              go_ret2
              exact HR.out
            · have hE2 : (D.actsE (installA (D.held l)) == 0) = false := by rw [beq_eq_false_iff_ne]; exact hE
              have HR : Hid (ROpenRet S0 w0 d D B (.returned (.tuple #[.pointer none, .int .i64 (D.actsE (installA (D.held l)))])) w7) :=
                (show ROpenRet S0 w0 d D B (.returned (.tuple #[.pointer none, .int .i64 (D.actsE (installA (D.held l)))])) w7 from .inl ⟨by rw [EO.out]; exact hE, by rw [EO.out], L11⟩)
              clear L11 hE
              go_wp2_with fail
              go_ret2
              exact HR.out
  · subst he2
    have hE' : (D.readE 1 == 0) = false := by rw [beq_eq_false_iff_ne]; exact hE
    have eO : D.openE = D.readE 1 := by unfold DSt.openE; rw [if_pos hE]
    have eD : D.opened = D := by unfold DSt.opened; rw [if_pos hE]
    have HR : Hid (ROpenRet S0 w0 d D B (.returned (.tuple #[.pointer none, .int .i64 (D.readE 1)])) w2) := (show ROpenRet S0 w0 d D B (.returned (.tuple #[.pointer none, .int .i64 (D.readE 1)])) w2 from .inl ⟨by rw [eO]; exact hE, by rw [eO], by rw [eD]; exact L2⟩)
    clear L2 hE eO eD
    go_wp2_with fail
    go_ret2
    exact HR.out
end
end Go.Proofs.YtchilnjocnkodaaGreat

namespace Go.Proofs.YtchilnjocnkodaaGreat
open Go.RowKit

abbrev RV (S0 : Nat → Prop) (w0 : World) (b d : Nat) (L : LSt) (B : Asr) (w : World) : Prop := Lv S0 w0 (Star (rlA b d L.stg L.dead) (Star (dskA kR d L.D) B)) w
/-- What the walks read of it. -/
structure RlCells (w : World) (b d : Nat) (stg : Stg) (dead : Bool) (ao : Option Addr) (c : Nat) : Prop where
  c0 : w.cell? ⟨b, 0, none⟩ = some (.pointer (some ⟨d, 0, none⟩))
  c1 : w.cell? ⟨b, 1, none⟩ = some (.slice ao stg.length c)
  c2 : w.cell? ⟨b, 2, none⟩ = some (.bool dead)
  z : ∀ j, w.frozen? ⟨b, j, none⟩ = false
  row : ∀ (k : Nat) (x : Nat × ByteArray), stg[k]? = some x → ∃ g off, ao = some ⟨g, off, none⟩ ∧ w.cell? ⟨g, off + k * 2, none⟩ = some (.int .i64 (x.1 : Int)) ∧ w.cell? ⟨g, off + k * 2 + 1, none⟩ = some (.string x.2)

section
variable {S0 : Nat → Prop} {w0 w : World} {b d : Nat} {L : LSt} {B : Asr}
theorem rl_cells {S : Nat → Prop} {stg : Stg} {dead : Bool} (h : rlA b d stg dead w S) : ∃ ao c, RlCells w b d stg dead ao c := by
  obtain ⟨ao, c, h1, h2, _⟩ := h
  refine ⟨ao, c, h1.cell (j := 0) rfl, h1.cell (j := 1) rfl, h1.cell (j := 2) rfl, h1.free, fun k x hx => ?_⟩
  have hs := row_srcs h2 (flatR_one _)
  have f0 := flatR_get hx 0 (by omega)
  have f1 := flatR_get hx 1 (by omega)
  obtain ⟨g, o, e, q⟩ := hs.at (f0.trans rfl)
  obtain ⟨g1, o1, e1, q1⟩ := hs.at (f1.trans rfl)
  rw [e] at e1
  simp only [Option.some.injEq, Addr.mk.injEq, and_true] at e1
  obtain ⟨rfl, rfl⟩ := e1
  exact ⟨g, o, e, q, q1⟩
theorem RV.loc (hB : Loc B) : Loc (Star (rlA b d L.stg L.dead) (Star (dskA kR d L.D) B)) := loc_star (loc_rl _ _ _ _) (loc_star (loc_dsk _ _ _) hB)
theorem RV.cells (hL : RV S0 w0 b d L B w) : ∃ ao c, RlCells w b d L.stg L.dead ao c := by
  obtain ⟨S, h⟩ := Lv.first hL
  exact rl_cells h
theorem RV.safe (hL : RV S0 w0 b d L B w) : (∃ bs c, w.cell? ⟨d, 0, none⟩ = some (.slice (some ⟨bs, 0, none⟩) L.D.safe.length c)) ∧ L.D.Ok := by
  obtain ⟨S, _, _, h, _⟩ := Lv.second hL
  exact ⟨safe_cell h, by obtain ⟨_, _, _, _, h⟩ := h; exact h.ok⟩

set_option maxRecDepth 100000 in
set_option maxHeartbeats 400000 in
theorem rhome_calls (hL : RV S0 w0 b d L B w) :
    Calls Tryz.prog 18 #[.pointer (some ⟨b, 0, none⟩)] w fun e w' => e = .returned (.int .i64 ((L.D.safe.length : Int) - 32)) ∧ w = w' := by
  obtain ⟨ao, c, h⟩ := hL.cells
  obtain ⟨⟨bs, sc, hs⟩, hok⟩ := hL.safe
  have c0 := h.c0
  have h1 := hok.len
  have hw0 : IntKind.i64.wrap ((L.D.safe.length : Int) - 32) = (L.D.safe.length : Int) - 32 := by rw [IntKind.wrap_i64]; omega
  clear hL h hok
  go_enter Tryz.func18, Tryz.ntmps18
  go_wp2
  go_ret
  exact ⟨rfl, rfl⟩

set_option maxRecDepth 100000 in
set_option maxHeartbeats 1000000 in
theorem rmay_calls (hL : RV S0 w0 b d L B w) (i : Int) :
    Calls Tryz.prog 59 #[.pointer (some ⟨b, 0, none⟩), .int .i64 i] w fun e w' => e = .returned (.int .i64 (L.mayE i)) ∧ w = w' := by
  obtain ⟨ao, c, h⟩ := hL.cells
  have c2 := h.c2
  have HH := Lib.hid (rhome_calls hL)
  unfold LSt.mayE
  clear hL h
  cases hdead : L.dead with
  | true =>
    rw [hdead] at c2
    go_enter Tryz.func59, Tryz.ntmps59
    go_wp2
    go_ret
    exact ⟨rfl, rfl⟩
  | false =>
    rw [hdead] at c2
    rw [if_neg (by simp)]
    clear hdead
    by_cases h0 : i < 0
    · rw [if_pos (.inl h0)]
      go_enter Tryz.func59, Tryz.ntmps59
      go_wp2
      go_ret
      exact ⟨rfl, rfl⟩
    · by_cases h1 : (L.D.safe.length : Int) - 32 ≤ i
      · rw [if_pos (.inr h1)]
        go_enter Tryz.func59, Tryz.ntmps59
        go_wp2_with fail
        refine HH.out.mono ?_
        rintro e w1 ⟨rfl, rfl⟩
        go_wp2_with fail
        go_ret
        exact ⟨rfl, rfl⟩
      · rw [if_neg (by omega)]
        go_enter Tryz.func59, Tryz.ntmps59
        go_wp2_with fail
        refine HH.out.mono ?_
        rintro e w1 ⟨rfl, rfl⟩
        go_wp2_with fail
        go_ret
        exact ⟨rfl, rfl⟩

set_option maxRecDepth 100000 in
set_option maxHeartbeats 400000 in
theorem rstaged_calls (hL : RV S0 w0 b d L B w) :
    Calls Tryz.prog 16 #[.pointer (some ⟨b, 0, none⟩)] w fun e w' => e = .returned (.int .i64 L.count) ∧ w = w' := by
  obtain ⟨ao, c, h⟩ := hL.cells
  have c1 := h.c1
  have c2 := h.c2
  unfold LSt.count
  clear hL h
  cases hdead : L.dead with
  | true =>
    rw [hdead] at c2
    go_enter Tryz.func16, Tryz.ntmps16
    go_wp2
    go_ret
    exact ⟨rfl, rfl⟩
  | false =>
    rw [hdead] at c2
    go_enter Tryz.func16, Tryz.ntmps16
    go_wp2
    go_ret
    exact ⟨rfl, rfl⟩

theorem turn_rnil (b d : Nat) (stg : Stg) (dead : Bool) (w : World) : Turn w (w.setCell ⟨b, 1, none⟩ (.slice none 0 0)) (rlA b d stg dead) (rlA b d [] dead) := by
  rintro S ⟨ao, c, h1, h2, h3, h4⟩
  exact ⟨⟨none, 0, h1.set 1 _, World.ownsRow_nil _ _ _ _, .inl h3, fun k hk => by cases hk⟩, Fr.setCell h3 w 1 _⟩
set_option maxRecDepth 100000 in
set_option maxHeartbeats 400000 in
theorem rabort_calls (hL : RV S0 w0 b d L B w) (hB : Loc B) :
    Calls Tryz.prog 40 #[.pointer (some ⟨b, 0, none⟩)] w fun e w' => e = .returned (.tuple #[]) ∧ RV S0 w0 b d L.abort B w' := by
  obtain ⟨ao, c, h⟩ := hL.cells
  have c1 := h.c1
  have z1 := h.z 1
  have HR : Hid (RV S0 w0 b d L.abort B (w.setCell ⟨b, 1, none⟩ (.slice none 0 0))) := Lib.hid (Lv.turn hL (loc_star (loc_dsk _ _ _) hB) (turn_rnil b d L.stg L.dead w))
  clear hL h
  go_enter Tryz.func40, Tryz.ntmps40
  go_wp2
  exact ⟨rfl, .tuple #[], results_none rfl _ _ _, rfl, HR.out⟩

theorem at_take_none {l : Stg} {k j : Nat} {x : Nat × ByteArray} (h : Stg.at (l.take k) j = none) (hx : l[k]? = some x) (hne : x.1 ≠ j) : Stg.at (l.take (k + 1)) j = none := by
  refine at_none fun y hy => ?_
  rw [List.take_add_one, hx] at hy
  rcases List.mem_append.1 hy with hy | hy
  · intro e
    unfold Stg.at at h
    rw [Option.map_eq_none_iff, List.find?_eq_none] at h
    exact h y hy (by simpa using e)
  · simp at hy; subst hy; exact hne

set_option maxRecDepth 100000 in
set_option maxHeartbeats 2000000 in
theorem rget_calls (hL : RV S0 w0 b d L B w) (hB : Loc B) (ho : L.stg.Good 512) (hw : L.D.wait.length * 24 ≤ 140737488355328) (i : Int) :
    Calls Tryz.prog 36 #[.pointer (some ⟨b, 0, none⟩), .int .i64 i] w fun e w' => e = .returned (.tuple #[.string (L.getS i), .int .i64 (L.getE i)]) ∧ RV S0 w0 b d L B w' := by
  obtain ⟨ao, c, h⟩ := hL.cells
  have HM := Lib.hid (rmay_calls hL i)
  have hok := hL.safe.2.len
  have c0 := h.c0
  have c1 := h.c1
  have HC := Lib.hid h
  have HL := Lib.hid hL
  have HO := Lib.hid ho
  have HW := Lib.hid hw
  obtain ⟨n, hn⟩ : ∃ n, n = L.stg.length := ⟨_, rfl⟩
  have HN := Lib.hid hn
  rw [← hn] at c1
  have hn30 : n ≤ 30 := by rw [hn]; exact ho.len
  clear h hL ho hw hn
  by_cases h0 : L.mayE i = 0
  · obtain ⟨_, hi0, hi1⟩ := may_zero h0
    obtain ⟨j, rfl⟩ := Int.eq_ofNat_of_zero_le hi0
    have hsome : ∀ s, L.stg.at j = some s → L.getS (j : Int) = s ∧ L.getE (j : Int) = 0 := by
      intro s h
      unfold LSt.getS LSt.getE
      rw [if_neg (by simpa using h0), if_neg (by simpa using h0), Int.toNat_natCast, h]
      exact ⟨rfl, rfl⟩
    have hnone : L.stg.at j = none → L.getS (j : Int) = L.D.readS (32 + (j : Int)) ∧ L.getE (j : Int) = L.D.readE (32 + (j : Int)) := by
      intro h
      unfold LSt.getS LSt.getE
      rw [if_neg (by simpa using h0), if_neg (by simpa using h0), Int.toNat_natCast, h]
      exact ⟨rfl, rfl⟩
    have HSOME := Lib.hid hsome
    have HNONE := Lib.hid hnone
    rw [h0] at HM
    have hrel0 : Stg.at (L.stg.take 0) j = none := rfl
    have hj512 : j < 512 := by omega
    have hw32 : IntKind.i64.wrap (32 + (j : Int)) = 32 + (j : Int) := by rw [IntKind.wrap_i64]; omega
    clear h0 hi0 hi1 hsome hnone
    go_enter Tryz.func36, Tryz.ntmps36
    go_wp2_with fail
    refine HM.out.mono ?_
    rintro e w1 ⟨rfl, rfl⟩
    go_wp2_with fail
    go_loopw [7] (fun s7 wr => ∃ k : Nat, k ≤ n ∧ s7 = .int .i64 k ∧ wr = w ∧ Stg.at (L.stg.take k) j = none) (fun s7 _ => n - (intOf s7).toNat)
    case atStart => exact ⟨0, Nat.zero_le _, rfl, rfl, hrel0⟩
    case round =>
      obtain ⟨k, hk, rfl, rfl, hat⟩ := hrel
      have HAT := Lib.hid hat
      clear hrel0 hat
      by_cases hlt : k < n
      · obtain ⟨x, hx⟩ : ∃ x, L.stg[k]? = some x := ⟨_, List.getElem?_eq_getElem (by rw [← HN.out]; exact hlt)⟩
        obtain ⟨g, off, rfl, q0, q1⟩ := HC.out.row k x hx
        have hx6 := HO.out.lt x (List.mem_of_getElem? hx)
        have HX := Lib.hid hx
        clear hx
        by_cases hxj : x.1 = j
        · have hA : L.stg.at j = some x.2 := by rw [← hxj]; exact at_of_mem HO.out.ok (List.mem_of_getElem? HX.out)
          have hxi : ((x.1 : Int) == (j : Int)) = true := by rw [beq_iff_eq]; omega
          have HG := Lib.hid (HSOME.out _ hA)
          clear hxj hA
          go_wp2_with fail
          go_ret2
          exact ⟨by rw [HG.out.1, HG.out.2]; rfl, HL.out⟩
        · have hxi : ((x.1 : Int) == (j : Int)) = false := by rw [beq_eq_false_iff_ne]; omega
          have HXJ := Lib.hid hxj
          clear hxj
          go_wp2_with fail
          go_roundw
          case rel => exact ⟨k + 1, hlt, by go_num, by first | rfl | trivial, at_take_none HAT.out HX.out HXJ.out⟩
          case measure => simp [intOf]; omega
      · obtain rfl : k = n := by omega
        have hA : L.stg.at j = none := by
          have := HAT.out
          rw [HN.out, List.take_length] at this
          exact this
        have HG := Lib.hid (HNONE.out hA)
        have C1 := Lib.hid (Lv.op HL.out (((r_read (32 + (j : Int)) HW.out).left hB).right (loc_rl _ _ _ _)))
        clear hA
        go_wp2_with fail
        refine C1.out.mono ?_
        rintro e w2 ⟨rfl, L2⟩
        go_wp2_with fail
        go_ret2
        exact ⟨by rw [HG.out.1, HG.out.2]; rfl, L2⟩
  · unfold LSt.getS LSt.getE
    rw [if_pos h0, if_pos h0]
    have h0' : (L.mayE i == 0) = false := by rw [beq_eq_false_iff_ne]; exact h0
    clear h0
    go_enter Tryz.func36, Tryz.ntmps36
    go_wp2_with fail
    refine HM.out.mono ?_
    rintro e w1 ⟨rfl, rfl⟩
    go_wp2_with fail
    go_ret2
    exact ⟨rfl, HL.out⟩
end
end Go.Proofs.YtchilnjocnkodaaGreat

namespace Go.Proofs.YtchilnjocnkodaaGreat
open Go.RowKit

theorem Tryz.infoRRow : (Tryz.prog.info? tRRow).map (fun i => (i.zero, i.size, i.bytes)) = some (some (.agg #[.int .i64 0, .string ByteArray.empty]), 2, 24) := by kernel_rfl
theorem Tryz.rowRRow : RowT Tryz.prog 69 tRRow 2 24 := by
  obtain ⟨i0, hi, hz0, hz1, hz2⟩ := info_parts Tryz.infoRRow
  exact ⟨⟨i0, _, Tryz.underlying69, hi, hz0, hz1, hz2, rfl⟩, by decide, by decide⟩

/-- What Set's loop has put out, of the first k. -/
def doneK (l : Stg) (i k : Nat) : Bool := (l.take k).any fun x => decide (i ≤ x.1)
def outK (l : Stg) (i : Nat) (s : ByteArray) (k : Nat) : Stg := if doneK l i k = true then Stg.put (l.take k) i s else l.take k

theorem put_past {l m : Stg} {i : Nat} {s : ByteArray} (h : ∀ x ∈ l, x.1 < i) : Stg.put (l ++ m) i s = l ++ Stg.put m i s := by
  induction l with
  | nil => rfl
  | cons x l ih =>
    have hx := h x (by simp)
    show (if i < x.1 then _ else if i = x.1 then _ else x :: Stg.put (l ++ m) i s) = _
    rw [if_neg (by omega), if_neg (by omega), ih (fun y hy => h y (by simp [hy]))]
    rfl
theorem put_before {l m : Stg} {i : Nat} {s : ByteArray} (h : ∃ x ∈ l, i ≤ x.1) : Stg.put (l ++ m) i s = Stg.put l i s ++ m := by
  induction l with
  | nil => obtain ⟨x, hx, _⟩ := h; cases hx
  | cons y l ih =>
    show (if i < y.1 then (i, s) :: y :: (l ++ m) else if i = y.1 then (i, s) :: (l ++ m) else y :: Stg.put (l ++ m) i s) = (if i < y.1 then (i, s) :: y :: l else if i = y.1 then (i, s) :: l else y :: Stg.put l i s) ++ m
    by_cases h1 : i < y.1
    · rw [if_pos h1, if_pos h1]; rfl
    · rw [if_neg h1, if_neg h1]
      by_cases h2 : i = y.1
      · rw [if_pos h2, if_pos h2]; rfl
      · rw [if_neg h2, if_neg h2, ih ?_]; rfl
        obtain ⟨x, hx, hxi⟩ := h
        rcases List.mem_cons.1 hx with rfl | hx
        · omega
        · exact ⟨x, hx, hxi⟩
theorem doneK_succ {l : Stg} {i k : Nat} {x : Nat × ByteArray} (hx : l[k]? = some x) : doneK l i (k + 1) = (doneK l i k || decide (i ≤ x.1)) := by
  unfold doneK
  rw [List.take_add_one, hx]
  simp
theorem doneK_false {l : Stg} {i k : Nat} (h : doneK l i k = false) : ∀ x ∈ l.take k, x.1 < i := by
  intro x hx
  unfold doneK at h
  rw [List.any_eq_false] at h
  have := h x hx
  simp at this; omega
theorem doneK_true {l : Stg} {i k : Nat} (h : doneK l i k = true) : ∃ x ∈ l.take k, i ≤ x.1 := by
  unfold doneK at h
  rw [List.any_eq_true] at h
  obtain ⟨x, hx, h⟩ := h
  exact ⟨x, hx, by simpa using h⟩
theorem take_lt {l : Stg} (ho : l.Ok) {k : Nat} {x y : Nat × ByteArray} (hx : l[k]? = some x) (hy : y ∈ l.take k) : y.1 < x.1 := by
  obtain ⟨j, hj, e⟩ := List.getElem_of_mem hy
  rw [List.length_take] at hj
  rw [List.getElem_take] at e
  have hk := (List.getElem?_eq_some_iff.1 hx).1
  have ex := (List.getElem?_eq_some_iff.1 hx).2
  have := List.pairwise_iff_getElem.1 ho j k (by omega) hk (by omega)
  rw [e, ex] at this
  exact this
section
variable {l : Stg} {i k : Nat} {s : ByteArray} {x : Nat × ByteArray}
/-- It stood already. -/
theorem out_done (ho : l.Ok) (hx : l[k]? = some x) (hd : doneK l i k = true) : doneK l i (k + 1) = true ∧ x.1 ≠ i ∧ outK l i s (k + 1) = outK l i s k ++ [x] := by
  have h1 : doneK l i (k + 1) = true := by rw [doneK_succ hx, hd]; rfl
  obtain ⟨y, hy, hyi⟩ := doneK_true hd
  have := take_lt ho hx hy
  refine ⟨h1, by omega, ?_⟩
  unfold outK
  rw [if_pos h1, if_pos hd, List.take_add_one, hx]
  exact put_before ⟨y, hy, hyi⟩
/-- Not yet. -/
theorem out_wait (hx : l[k]? = some x) (hd : doneK l i k = false) (hxi : x.1 < i) : doneK l i (k + 1) = false ∧ x.1 ≠ i ∧ outK l i s (k + 1) = outK l i s k ++ [x] := by
  have h1 : doneK l i (k + 1) = false := by rw [doneK_succ hx, hd, decide_eq_false (by omega)]; rfl
  refine ⟨h1, by omega, ?_⟩
  unfold outK
  rw [if_neg (by simp [h1]), if_neg (by simp [hd]), List.take_add_one, hx]
  rfl
/-- Here. -/
theorem out_here (hx : l[k]? = some x) (hd : doneK l i k = false) (hxi : i ≤ x.1) : doneK l i (k + 1) = true ∧ outK l i s k = l.take k ∧ (x.1 = i → outK l i s (k + 1) = (outK l i s k ++ [(i, s)])) ∧ (x.1 ≠ i → outK l i s (k + 1) = (outK l i s k ++ [(i, s)]) ++ [x]) := by
  have h1 : doneK l i (k + 1) = true := by rw [doneK_succ hx, hd, decide_eq_true hxi]; rfl
  have h2 : outK l i s k = l.take k := by unfold outK; rw [if_neg (by simp [hd])]
  have h3 : outK l i s (k + 1) = l.take k ++ Stg.put [x] i s := by
    unfold outK
    rw [if_pos h1, List.take_add_one, hx]
    exact put_past (doneK_false hd)
  refine ⟨h1, h2, fun h => ?_, fun h => ?_⟩
  · rw [h3, h2]
    congr 1
    unfold Stg.put
    rw [if_neg (by omega), if_pos h.symm]
  · rw [h3, h2, List.append_assoc]
    congr 1
    unfold Stg.put
    rw [if_pos (by omega)]
    rfl
theorem out_end (hd : doneK l i l.length = false) : Stg.put l i s = outK l i s l.length ++ [(i, s)] := by
  have h := doneK_false hd
  rw [List.take_length] at h
  unfold outK
  rw [if_neg (by simp [hd]), List.take_length]
  have := put_past (m := []) (s := s) h
  rw [List.append_nil] at this
  rw [this]; rfl
theorem out_end' (hd : doneK l i l.length = true) : Stg.put l i s = outK l i s l.length := by
  unfold outK
  rw [if_pos hd, List.take_length]
theorem out_len (k : Nat) : (outK l i s k).length ≤ k + 1 := by
  have key : ∀ m : Stg, (Stg.put m i s).length ≤ m.length + 1 := by
    intro m
    induction m with
    | nil => simp [Stg.put]
    | cons y m ih =>
      unfold Stg.put
      split
      · simp
      · split
        · simp
        · simp; omega
  unfold outK
  split
  · have := key (l.take k); rw [List.length_take] at this; omega
  · rw [List.length_take]; omega
end
theorem flatR_snoc (l : Stg) (x : Nat × ByteArray) : flatR (l ++ [x]) = flatR l ++ [.int .i64 (x.1 : Int), .string x.2] := by
  unfold flatR
  rw [List.flatMap_append]
  simp [cellsR]
end Go.Proofs.YtchilnjocnkodaaGreat
