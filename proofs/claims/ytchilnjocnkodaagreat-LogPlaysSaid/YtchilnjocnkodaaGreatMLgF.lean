/- The log: Commit. The log's calls, whole, with a disk and anything beside them. -/
import Derived.Test.YtchilnjocnkodaaGreatLgE
import Derived.Test.YtchilnjocnkodaaGreatLgB
import Derived.Test.YtchilnjocnkodaaGreatLgD
namespace Go.Proofs.YtchilnjocnkodaaGreat
open Go.RowKit

/-- A log is told dead. -/
theorem turn_dead (b d mb : Nat) (stg : Stg) (dv : Bool) (w : World) : Turn w (w.setCell ⟨b, 2, none⟩ (.bool dv)) (lgM b d mb stg false) (lgM b d mb stg dv) := by
  rintro S ⟨h1, h2, h3, h4⟩
  have hne : b ≠ mb := by
    intro e
    obtain ⟨es, clock, hb, _⟩ := h2
    rw [← e, h1] at hb
    cases hb
  exact ⟨⟨h1.set 2 _, h2.fr (Fr.setCell (S := (· = b)) rfl w 2 _) (fun h => hne h.symm), .inl h3, .inl h4⟩, Fr.setCell h3 w 2 _⟩
theorem turn_clear {b d mb : Nat} {stg : Stg} {dv : Bool} {w w' : World} (h : IsMp w' mb []) (hf : Fr (· = mb) w w') : Turn w w' (lgM b d mb stg dv) (lgM b d mb [] dv) := by
  rintro S ⟨h1, h2, h3, h4⟩
  have hne : b ≠ mb := by
    intro e
    obtain ⟨es, clock, hb, _⟩ := h2
    rw [← e, h1] at hb
    cases hb
  exact ⟨⟨h1.fr hf hne, h, .inl h3, .inl h4⟩, hf.mono fun k hk => by subst hk; exact h4⟩

section
variable {S0 : Nat → Prop} {w0 w : World} {b d : Nat} {B : Asr}

set_option maxRecDepth 100000 in
set_option maxHeartbeats 1000000 in
theorem commit_lives {L : LSt} {m : Nat} (hL : Lv S0 w0 (Star (lgA b d L.stg L.dead) (Star (dskA kD d L.D) B)) w) (hB : Loc B) (hg : L.stg.Good m) (hm : m ≤ 512) (hw : (L.D.wait.length + 70) * 24 ≤ 140737488355328) :
    Calls Tryz.prog 23 #[.pointer (some ⟨b, 0, none⟩)] w fun e w' => e = .returned (.int .i64 L.commitE) ∧ Lv S0 w0 (Star (lgA b d L.commit.stg L.commit.dead) (Star (dskA kD d L.commit.D) B)) w' := by
  obtain ⟨D, stg, dead⟩ := L
  simp only at hL hg hw
  obtain ⟨mb, hM⟩ := lv_open hL
  obtain ⟨S, h1, h2, h3, h4⟩ := hM.first
  have c1 := h1.cell (j := 1) rfl
  have c2 := h1.cell (j := 2) rfl
  have hlen := mp_len h2 3
  have H2 := Lib.hid h2
  cases dead with
  | true =>
    have e1 : (LSt.mk D stg true).commitE = 7 := rfl
    have e2 : (LSt.mk D stg true).commit = LSt.mk D stg true := rfl
    rw [e1, e2]
    have H := Lib.hid hL
    clear hL hM h1 h2 hg hw hlen
    go_enter Tryz.func23, Tryz.ntmps23
    go_wp2
    go_ret
    exact ⟨rfl, H.out⟩
  | false =>
    by_cases hs : stg = []
    · subst hs
      have e1 : (LSt.mk D [] false).commitE = 0 := rfl
      have e2 : (LSt.mk D [] false).commit = LSt.mk D [] false := rfl
      rw [e1, e2]
      have H := Lib.hid hL
      clear hL hM h1 h2 hg hw
      go_enter Tryz.func23, Tryz.ntmps23
      go_wp2
      go_ret
      exact ⟨rfl, H.out⟩
    · have e1 : (LSt.mk D stg false).commitE = D.actsE (commitA stg) := by
        unfold LSt.commitE
        rw [if_neg (by simp), if_neg hs]
      have e2 : (LSt.mk D stg false).commit = if D.actsE (commitA stg) = 0 then ⟨D.acts (commitA stg), [], false⟩ else ⟨D.acts (commitA stg), stg, true⟩ := by
        unfold LSt.commit
        rw [if_neg (by simp), if_neg hs]
      rw [e1, e2]
      have hpos : 0 < stg.length := List.length_pos_iff.2 hs
      have hl0 : ((stg.length : Int) == 0) = false := by rw [beq_eq_false_iff_ne]; omega
      have hBl : Loc (Star (lgA b d stg false) (Star (dskA kD d D) B)) := loc_star (loc_lg _ _ _ _) (loc_star (loc_dsk _ _ _) hB)
      have HG := Lib.hid hg
      have HL := Lib.hid hL
      have HW := Lib.hid hw
      clear hL hM h1 h2 hg hw e1 e2 hs
      go_enter Tryz.func23, Tryz.ntmps23
      go_wp2_with fail
      refine (mkeys_calls _ _).mono ?_
      rintro e w1 ⟨rfl, rfl⟩
      go_wp2_with fail
      refine (sorted_calls H2.out HG.out.ok HG.out.len).mono ?_
      rintro e w2 ⟨v, rfl, hrow, hlt, hf⟩
      have hf' : Fr Nob w w2 := (Fr.refl Nob w).alloc _ |>.trans hf
      have L2 := HL.out.new (B := rowA tIntE 1 v stg.length (nums (keys stg))) hBl hf' ⟨hrow, fun k hk => .inr ⟨hlt k hk, (hrow.lt k hk).2⟩⟩
      have L3 := L2.map (B := Star (lgA b d stg false) (Star (dskA kD d D) (Star (rowA tIntE 1 v stg.length (nums (keys stg))) B))) fun U h => star_right (star_flip h) fun _ h => star_flip h
      clear HL L2 hf hf' hrow hlt
      go_wp2_with fail
      refine (commits_calls L3 hB HG.out hm HW.out).mono ?_
      rintro e w3 ⟨rfl, L4⟩
      clear c1 c2 hlen
      obtain ⟨mc, L5⟩ := lv_open L4
      obtain ⟨S', g1, g2, g3, g4⟩ := L5.first
      have c1 := g1.cell (j := 1) rfl
      have c2 := g1.cell (j := 2) rfl
      have z2 := g1.free 2
      have hBl' : Loc (Star (dskA kD d (D.acts (commitA stg))) B) := loc_star (loc_dsk _ _ _) hB
      by_cases hE : D.actsE (commitA stg) = 0
      · have hE' : (D.actsE (commitA stg) == 0) = true := by rw [beq_iff_eq]; exact hE
        obtain ⟨w5, hc, k2, hf2⟩ := mp_clear g2 0
        have L6 := lv_shut (L5.turn hBl' (turn_clear k2 hf2))
        have HE := Lib.hid hE
        have H6 := Lib.hid L6
        clear hE L6 L5 L4 L3 g1 g2 k2 hf2
        go_wp2_with fail
        go_ret
        refine ⟨by first | rfl | (rw [HE.out]; rfl), ?_⟩
        first | exact H6.out | (rw [if_pos HE.out]; exact H6.out)
      · have hE' : (D.actsE (commitA stg) == 0) = false := by rw [beq_eq_false_iff_ne]; exact hE
        have L6 := lv_shut (L5.turn hBl' (turn_dead b d mc stg true _))
        have H6 := Lib.hid L6
        have HE := Lib.hid hE
        clear hE L6 L5 L4 L3 g1 g2
        go_wp2_with fail
        go_ret
        exact ⟨rfl, by first | exact H6.out | (rw [if_neg HE.out]; exact H6.out)⟩
end
end Go.Proofs.YtchilnjocnkodaaGreat

namespace Go.Proofs.YtchilnjocnkodaaGreat
open Go.RowKit

/-- A log, its disk, and what else there is. -/
abbrev LV (S0 : Nat → Prop) (w0 : World) (b d : Nat) (L : LSt) (B : Asr) (w : World) : Prop := Lv S0 w0 (Star (lgA b d L.stg L.dead) (Star (dskA kD d L.D) B)) w
/-- As it must be. -/
def LSt.Ok (L : LSt) : Prop := L.stg.Good (L.D.safe.length - 32)

theorem turn_map {b d mb : Nat} {stg stg' : Stg} {dv : Bool} {w w' : World} (h : IsMp w' mb stg') (hf : Fr (· = mb) w w') : Turn w w' (lgM b d mb stg dv) (lgM b d mb stg' dv) := by
  rintro S ⟨h1, h2, h3, h4⟩
  have hne : b ≠ mb := by
    intro e
    obtain ⟨es, clock, hb, _⟩ := h2
    rw [← e, h1] at hb
    cases hb
  exact ⟨⟨h1.fr hf hne, h, .inl h3, .inl h4⟩, hf.mono fun k hk => by subst hk; exact h4⟩

theorem put_len {l : Stg} (ho : l.Ok) (i : Nat) (s : ByteArray) : (l.put i s).length = if l.at i = none then l.length + 1 else l.length := by
  induction l with
  | nil => rfl
  | cons y l ih =>
    have ho' : Stg.Ok l := (List.pairwise_cons.1 ho).2
    have hy := (List.pairwise_cons.1 ho).1
    unfold Stg.put
    by_cases h1 : i < y.1
    · have : Stg.at (y :: l) i = none := at_none fun x hx => by
        rcases List.mem_cons.1 hx with rfl | hx
        · omega
        · have := hy x hx; omega
      rw [if_pos h1, this, if_pos rfl]; rfl
    · rw [if_neg h1]
      by_cases h2 : i = y.1
      · have : Stg.at (y :: l) i = some y.2 := by unfold Stg.at; simp [h2]
        rw [if_pos h2, this, if_neg (by simp)]; rfl
      · have : Stg.at (y :: l) i = Stg.at l i := by
          unfold Stg.at
          rw [List.find?_cons, show (y.1 == i) = false from beq_eq_false_iff_ne.2 (by omega)]
        rw [if_neg h2, this]
        show (Stg.put l i s).length + 1 = _
        rw [ih ho']
        split <;> rfl
theorem may_zero {L : LSt} {i : Int} (h : L.mayE i = 0) : L.dead = false ∧ 0 ≤ i ∧ i < (L.D.safe.length : Int) - 32 := by
  unfold LSt.mayE at h
  split at h
  · cases h
  · split at h
    · cases h
    · rename_i h1 h2
      refine ⟨by simpa using h1, by omega, by omega⟩
theorem setE_zero {L : LSt} {i : Int} {s : ByteArray} (h : L.setE i s = 0) : L.mayE i = 0 ∧ s.size = 64 ∧ ¬ (L.stg.at i.toNat = none ∧ L.stg.length = 30) := by
  unfold LSt.setE at h
  split at h
  · exact absurd h (by assumption)
  · split at h
    · cases h
    · split at h
      · cases h
      · rename_i h1 h2 h3
        exact ⟨by simpa using h1, by simpa using h2, h3⟩
theorem set_D (L : LSt) (i : Int) (s : ByteArray) : (L.set i s).D = L.D ∧ (L.set i s).dead = L.dead := by
  unfold LSt.set
  split <;> exact ⟨rfl, rfl⟩
theorem put_good {m : Nat} {l : Stg} (hg : l.Good m) {i : Nat} {s : ByteArray} (hi : i < m) (hs : s.size = 64) (hf : ¬ (l.at i = none ∧ l.length = 30)) : (l.put i s).Good m where
  ok := put_ok hg.ok i s
  len := by
    have := hg.len
    rw [put_len hg.ok]
    split
    · rename_i h
      have : l.length ≠ 30 := fun e => hf ⟨h, e⟩
      omega
    · omega
  lt x hx := by
    rcases put_mem hx with rfl | h
    · exact hi
    · exact hg.lt x h
  size x hx := by
    rcases put_mem hx with rfl | h
    · exact hs
    · exact hg.size x h
theorem set_good {L : LSt} (h : L.Ok) (i : Int) (s : ByteArray) : (L.set i s).Ok := by
  have hD := (set_D L i s).1
  unfold LSt.Ok
  rw [hD]
  unfold LSt.set
  split
  · exact h
  · rename_i h0
    have h0 : L.setE i s = 0 := by simpa using h0
    obtain ⟨h1, h2, h3⟩ := setE_zero h0
    obtain ⟨_, h4, h5⟩ := may_zero h1
    exact put_good h (by omega) h2 h3
theorem good_nil (m : Nat) : Stg.Good m [] := ⟨List.Pairwise.nil, by simp, fun _ h => (by cases h), fun _ h => (by cases h)⟩

section
variable {S0 : Nat → Prop} {w0 w : World} {b d : Nat} {L : LSt} {D : DSt} {B : Asr}
theorem LV.loc (hB : Loc B) : Loc (Star (lgA b d L.stg L.dead) (Star (dskA kD d L.D) B)) := loc_star (loc_lg _ _ _ _) (loc_star (loc_dsk _ _ _) hB)
theorem LV.parts (hL : LV S0 w0 b d L B w) : ∃ mb S, Blk w b tLog [.pointer (some ⟨d, 0, none⟩), .map (some mb), .bool L.dead] ∧ IsMp w mb L.stg ∧ IsDisk w d S L.D ∧ L.D.Ok := by
  obtain ⟨U, ⟨S, T, ⟨mb, h1, h2, _⟩, ⟨S', T', h3, _⟩, _⟩, _⟩ := hL
  exact ⟨mb, S', h1, h2, h3, by obtain ⟨_, _, _, _, h⟩ := h3; exact h.ok⟩

theorem lv_get (hL : LV S0 w0 b d L B w) (hB : Loc B) (hw : L.D.wait.length * 24 ≤ 140737488355328) (i : Int) :
    Calls Tryz.prog 24 #[.pointer (some ⟨b, 0, none⟩), .int .i64 i] w fun e w' => e = .returned (.tuple #[.string (L.getS i), .int .i64 (L.getE i)]) ∧ LV S0 w0 b d L B w' := by
  obtain ⟨mb, S, h1, h2, h3, _⟩ := hL.parts
  exact hL.calls (LV.loc hB) (lget_calls h1 h2 h3 hw i)
theorem lv_staged (hL : LV S0 w0 b d L B w) :
    Calls Tryz.prog 15 #[.pointer (some ⟨b, 0, none⟩)] w fun e w' => e = .returned (.int .i64 L.count) ∧ w = w' := by
  obtain ⟨mb, S, h1, h2, _, _⟩ := hL.parts
  exact lstaged_calls h1 h2
theorem lv_home (hL : LV S0 w0 b d L B w) :
    Calls Tryz.prog 17 #[.pointer (some ⟨b, 0, none⟩)] w fun e w' => e = .returned (.int .i64 ((L.D.safe.length : Int) - 32)) ∧ w = w' := by
  obtain ⟨mb, S, h1, _, h3, _⟩ := hL.parts
  exact lhome_calls h1 h3
theorem lv_set (hL : LV S0 w0 b d L B w) (hB : Loc B) (hk : L.Ok) (i : Int) (s : ByteArray) :
    Calls Tryz.prog 21 #[.pointer (some ⟨b, 0, none⟩), .int .i64 i, .string s] w fun e w' => e = .returned (.int .i64 (L.setE i s)) ∧ LV S0 w0 b d (L.set i s) B w' := by
  obtain ⟨mb, hM⟩ := lv_open hL
  have hM' := hM
  obtain ⟨U, ⟨S, T, ⟨h1, h2, _⟩, ⟨S', T', h3, _⟩, _⟩, _⟩ := hM
  refine (lset_calls h1 h2 h3 hk.ok hk.len i s).mono ?_
  rintro e w1 ⟨he, hm, hf⟩
  refine ⟨he, ?_⟩
  have := lv_shut (hM'.turn (loc_star (loc_dsk _ _ _) hB) (turn_map hm hf))
  obtain ⟨e1, e2⟩ := set_D L i s
  unfold LV
  rw [e1, e2]
  exact this
theorem lv_abort (hL : LV S0 w0 b d L B w) (hB : Loc B) :
    Calls Tryz.prog 39 #[.pointer (some ⟨b, 0, none⟩)] w fun e w' => e = .returned (.tuple #[]) ∧ LV S0 w0 b d L.abort B w' := by
  obtain ⟨mb, hM⟩ := lv_open hL
  have hM' := hM
  obtain ⟨U, ⟨S, T, ⟨h1, h2, _⟩, _⟩, _⟩ := hM
  refine (labort_calls h1 h2).mono ?_
  rintro e w1 ⟨he, hm, hf⟩
  exact ⟨he, lv_shut (hM'.turn (loc_star (loc_dsk _ _ _) hB) (turn_map hm hf))⟩
theorem lv_commit (hL : LV S0 w0 b d L B w) (hB : Loc B) (hk : L.Ok) (hw : (L.D.wait.length + 70) * 24 ≤ 140737488355328) :
    Calls Tryz.prog 23 #[.pointer (some ⟨b, 0, none⟩)] w fun e w' => e = .returned (.int .i64 L.commitE) ∧ LV S0 w0 b d L.commit B w' := by
  obtain ⟨_, _, _, _, _, hok⟩ := hL.parts
  exact commit_lives hL hB hk (by have := hok.len; omega) hw
theorem lv_opens (hL : Lv S0 w0 (Star (dskA kD d D) B) w) (hB : Loc B) (hE : D.openE = 0) (hw : (D.wait.length + 31) * 24 ≤ 140737488355328) :
    Calls Tryz.prog 6 #[.pointer (some ⟨d, 0, none⟩)] w fun e w' => ∃ b, e = .returned (.tuple #[.pointer (some ⟨b, 0, none⟩), .int .i64 0]) ∧ LV S0 w0 b d ⟨D.opened, [], false⟩ B w' := by
  refine (open_calls hL hB hw).mono ?_
  rintro e w1 (⟨h, _⟩ | ⟨_, b, he, h⟩)
  · exact absurd hE h
  · exact ⟨b, he, h.map fun _ h => star_flip h⟩
theorem lv_opens_any (hL : Lv S0 w0 (Star (dskA kD d D) B) w) (hB : Loc B) (hw : (D.wait.length + 31) * 24 ≤ 140737488355328) :
    Calls Tryz.prog 6 #[.pointer (some ⟨d, 0, none⟩)] w fun e w' => (∃ v, e = .returned v) ∧ Lv S0 w0 (Star (dskA kD d D.opened) B) w' := by
  refine (open_calls hL hB hw).mono ?_
  rintro e w1 (⟨_, he, h⟩ | ⟨_, b, he, h⟩)
  · exact ⟨⟨_, he⟩, h⟩
  · exact ⟨⟨_, he⟩, h.map fun _ h => star_less h⟩
/-- Of the disk alone. -/
theorem lv_disk {f : FuncId} {args : Array Value} {Q : Ending → Prop} {D' : DSt} (hL : LV S0 w0 b d L B w) (hB : Loc B) (ht : Tri Tryz.prog f args w (dskA kD d L.D) Q (dskA kD d D')) :
    Calls Tryz.prog f args w fun e w' => Q e ∧ LV S0 w0 b d { L with D := D' } B w' :=
  hL.op ((ht.left hB).right (loc_lg _ _ _ _))
/-- The log is let go. -/
theorem LV.gone (hL : LV S0 w0 b d L B w) : Lv S0 w0 (Star (dskA kD d L.D) B) w := Lv.drop hL
end
end Go.Proofs.YtchilnjocnkodaaGreat
