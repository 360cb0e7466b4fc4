/- The log's calls, whole, with a disk and anything beside them. -/
import Derived.Test.YtchilnjocnkodaaLgF
import Derived.Test.YtchilnjocnkodaaLgB
import Derived.Test.YtchilnjocnkodaaLgD
namespace Go.Proofs.Ytchilnjocnkodaa
open Go.RowKit

/-- A log, its disk, and what else there is. -/
abbrev LV (S0 : Nat → Prop) (w0 : World) (b d : Nat) (L : LSt) (B : Asr) (w : World) : Prop := Lv S0 w0 (Star (lgA b d L.stg L.dead) (Star (dskA kD d L.D) B)) w
/-- As it must be. -/
def LSt.Ok (L : LSt) : Prop := L.stg.Good (L.D.safe.length - 32)

theorem turn_map {b d mb : Nat} {stg stg' : Stg} {dv : Bool} {w w' : World} (h : IsMp w' mb stg') (hf : Fr (· = mb) w w') : Turn w w' (lgM b d mb stg dv) (lgM b d mb stg' dv) := by
  rintro S ⟨h1, h2, h3, h4⟩
  have hne : b ≠ mb := by
    intro e
    obtain ⟨es, clock, hb, _⟩ := h2
    rw [← e, h1] at hb
    cases hb
  exact ⟨⟨h1.fr hf hne, h, .inl h3, .inl h4⟩, hf.mono fun k hk => by subst hk; exact h4⟩

theorem put_len {l : Stg} (ho : l.Ok) (i : Nat) (s : ByteArray) : (l.put i s).length = if l.at i = none then l.length + 1 else l.length := by
  induction l with
  | nil => rfl
  | cons y l ih =>
    have ho' : Stg.Ok l := (List.pairwise_cons.1 ho).2
    have hy := (List.pairwise_cons.1 ho).1
    unfold Stg.put
    by_cases h1 : i < y.1
    · have : Stg.at (y :: l) i = none := at_none fun x hx => by
        rcases List.mem_cons.1 hx with rfl | hx
        · omega
        · have := hy x hx; omega
      rw [if_pos h1, this, if_pos rfl]; rfl
    · rw [if_neg h1]
      by_cases h2 : i = y.1
      · have : Stg.at (y :: l) i = some y.2 := by unfold Stg.at; simp [h2]
        rw [if_pos h2, this, if_neg (by simp)]; rfl
      · have : Stg.at (y :: l) i = Stg.at l i := by
          unfold Stg.at
          rw [List.find?_cons, show (y.1 == i) = false from beq_eq_false_iff_ne.2 (by omega)]
        rw [if_neg h2, this]
        show (Stg.put l i s).length + 1 = _
        rw [ih ho']
        split <;> rfl
theorem may_zero {L : LSt} {i : Int} (h : L.mayE i = 0) : L.dead = false ∧ 0 ≤ i ∧ i < (L.D.safe.length : Int) - 32 := by
  unfold LSt.mayE at h
  split at h
  · cases h
  · split at h
    · cases h
    · rename_i h1 h2
      refine ⟨by simpa using h1, by omega, by omega⟩
theorem setE_zero {L : LSt} {i : Int} {s : ByteArray} (h : L.setE i s = 0) : L.mayE i = 0 ∧ s.size = 64 ∧ ¬ (L.stg.at i.toNat = none ∧ L.stg.length = 30) := by
  unfold LSt.setE at h
  split at h
  · exact absurd h (by assumption)
  · split at h
    · cases h
    · split at h
      · cases h
      · rename_i h1 h2 h3
        exact ⟨by simpa using h1, by simpa using h2, h3⟩
theorem set_D (L : LSt) (i : Int) (s : ByteArray) : (L.set i s).D = L.D ∧ (L.set i s).dead = L.dead := by
  unfold LSt.set
  split <;> exact ⟨rfl, rfl⟩
theorem put_good {m : Nat} {l : Stg} (hg : l.Good m) {i : Nat} {s : ByteArray} (hi : i < m) (hs : s.size = 64) (hf : ¬ (l.at i = none ∧ l.length = 30)) : (l.put i s).Good m where
  ok := put_ok hg.ok i s
  len := by
    have := hg.len
    rw [put_len hg.ok]
    split
    · rename_i h
      have : l.length ≠ 30 := fun e => hf ⟨h, e⟩
      omega
    · omega
  lt x hx := by
    rcases put_mem hx with rfl | h
    · exact hi
    · exact hg.lt x h
  size x hx := by
    rcases put_mem hx with rfl | h
    · exact hs
    · exact hg.size x h
theorem set_good {L : LSt} (h : L.Ok) (i : Int) (s : ByteArray) : (L.set i s).Ok := by
  have hD := (set_D L i s).1
  unfold LSt.Ok
  rw [hD]
  unfold LSt.set
  split
  · exact h
  · rename_i h0
    have h0 : L.setE i s = 0 := by simpa using h0
    obtain ⟨h1, h2, h3⟩ := setE_zero h0
    obtain ⟨_, h4, h5⟩ := may_zero h1
    exact put_good h (by omega) h2 h3
theorem good_nil (m : Nat) : Stg.Good m [] := ⟨List.Pairwise.nil, by simp, fun _ h => (by cases h), fun _ h => (by cases h)⟩

section
variable {S0 : Nat → Prop} {w0 w : World} {b d : Nat} {L : LSt} {D : DSt} {B : Asr}
theorem LV.loc (hB : Loc B) : Loc (Star (lgA b d L.stg L.dead) (Star (dskA kD d L.D) B)) := loc_star (loc_lg _ _ _ _) (loc_star (loc_dsk _ _ _) hB)
theorem LV.parts (hL : LV S0 w0 b d L B w) : ∃ mb S, Blk w b tLog [.pointer (some ⟨d, 0, none⟩), .map (some mb), .bool L.dead] ∧ IsMp w mb L.stg ∧ IsDisk w d S L.D ∧ L.D.Ok := by
  obtain ⟨U, ⟨S, T, ⟨mb, h1, h2, _⟩, ⟨S', T', h3, _⟩, _⟩, _⟩ := hL
  exact ⟨mb, S', h1, h2, h3, by obtain ⟨_, _, _, _, h⟩ := h3; exact h.ok⟩

theorem lv_get (hL : LV S0 w0 b d L B w) (hB : Loc B) (hw : L.D.wait.length * 24 ≤ 140737488355328) (i : Int) :
    Calls Try.prog 20 #[.pointer (some ⟨b, 0, none⟩), .int .i64 i] w fun e w' => e = .returned (.tuple #[.string (L.getS i), .int .i64 (L.getE i)]) ∧ LV S0 w0 b d L B w' := by
  obtain ⟨mb, S, h1, h2, h3, _⟩ := hL.parts
  exact hL.calls (LV.loc hB) (lget_calls h1 h2 h3 hw i)
theorem lv_staged (hL : LV S0 w0 b d L B w) :
    Calls Try.prog 19 #[.pointer (some ⟨b, 0, none⟩)] w fun e w' => e = .returned (.int .i64 L.count) ∧ w = w' := by
  obtain ⟨mb, S, h1, h2, _, _⟩ := hL.parts
  exact lstaged_calls h1 h2
theorem lv_home (hL : LV S0 w0 b d L B w) :
    Calls Try.prog 24 #[.pointer (some ⟨b, 0, none⟩)] w fun e w' => e = .returned (.int .i64 ((L.D.safe.length : Int) - 32)) ∧ w = w' := by
  obtain ⟨mb, S, h1, _, h3, _⟩ := hL.parts
  exact lhome_calls h1 h3
theorem lv_set (hL : LV S0 w0 b d L B w) (hB : Loc B) (hk : L.Ok) (i : Int) (s : ByteArray) :
    Calls Try.prog 21 #[.pointer (some ⟨b, 0, none⟩), .int .i64 i, .string s] w fun e w' => e = .returned (.int .i64 (L.setE i s)) ∧ LV S0 w0 b d (L.set i s) B w' := by
  obtain ⟨mb, hM⟩ := lv_open hL
  have hM' := hM
  obtain ⟨U, ⟨S, T, ⟨h1, h2, _⟩, ⟨S', T', h3, _⟩, _⟩, _⟩ := hM
  refine (lset_calls h1 h2 h3 hk.ok hk.len i s).mono ?_
  rintro e w1 ⟨he, hm, hf⟩
  refine ⟨he, ?_⟩
  have := lv_shut (hM'.turn (loc_star (loc_dsk _ _ _) hB) (turn_map hm hf))
  obtain ⟨e1, e2⟩ := set_D L i s
  unfold LV
  rw [e1, e2]
  exact this
theorem lv_abort (hL : LV S0 w0 b d L B w) (hB : Loc B) :
    Calls Try.prog 23 #[.pointer (some ⟨b, 0, none⟩)] w fun e w' => e = .returned (.tuple #[]) ∧ LV S0 w0 b d L.abort B w' := by
  obtain ⟨mb, hM⟩ := lv_open hL
  have hM' := hM
  obtain ⟨U, ⟨S, T, ⟨h1, h2, _⟩, _⟩, _⟩ := hM
  refine (labort_calls h1 h2).mono ?_
  rintro e w1 ⟨he, hm, hf⟩
  exact ⟨he, lv_shut (hM'.turn (loc_star (loc_dsk _ _ _) hB) (turn_map hm hf))⟩
theorem lv_commit (hL : LV S0 w0 b d L B w) (hB : Loc B) (hk : L.Ok) (hw : (L.D.wait.length + 70) * 24 ≤ 140737488355328) :
    Calls Try.prog 14 #[.pointer (some ⟨b, 0, none⟩)] w fun e w' => e = .returned (.int .i64 L.commitE) ∧ LV S0 w0 b d L.commit B w' := by
  obtain ⟨_, _, _, _, _, hok⟩ := hL.parts
  exact commit_lives hL hB hk (by have := hok.len; omega) hw
theorem lv_opens (hL : Lv S0 w0 (Star (dskA kD d D) B) w) (hB : Loc B) (hE : D.openE = 0) (hw : (D.wait.length + 31) * 24 ≤ 140737488355328) :
    Calls Try.prog 12 #[.pointer (some ⟨d, 0, none⟩)] w fun e w' => ∃ b, e = .returned (.tuple #[.pointer (some ⟨b, 0, none⟩), .int .i64 0]) ∧ LV S0 w0 b d ⟨D.opened, [], false⟩ B w' := by
  refine (open_calls hL hB hw).mono ?_
  rintro e w1 (⟨h, _⟩ | ⟨_, b, he, h⟩)
  · exact absurd hE h
  · exact ⟨b, he, h.map fun _ h => star_flip h⟩
theorem lv_opens_any (hL : Lv S0 w0 (Star (dskA kD d D) B) w) (hB : Loc B) (hw : (D.wait.length + 31) * 24 ≤ 140737488355328) :
    Calls Try.prog 12 #[.pointer (some ⟨d, 0, none⟩)] w fun e w' => (∃ v, e = .returned v) ∧ Lv S0 w0 (Star (dskA kD d D.opened) B) w' := by
  refine (open_calls hL hB hw).mono ?_
  rintro e w1 (⟨_, he, h⟩ | ⟨_, b, he, h⟩)
  · exact ⟨⟨_, he⟩, h⟩
  · exact ⟨⟨_, he⟩, h.map fun _ h => star_less h⟩
/-- Of the disk alone. -/
theorem lv_disk {f : FuncId} {args : Array Value} {Q : Ending → Prop} {D' : DSt} (hL : LV S0 w0 b d L B w) (hB : Loc B) (ht : Tri Try.prog f args w (dskA kD d L.D) Q (dskA kD d D')) :
    Calls Try.prog f args w fun e w' => Q e ∧ LV S0 w0 b d { L with D := D' } B w' :=
  hL.op ((ht.left hB).right (loc_lg _ _ _ _))
/-- The log is let go. -/
theorem LV.gone (hL : LV S0 w0 b d L B w) : Lv S0 w0 (Star (dskA kD d L.D) B) w := Lv.drop hL
end
end Go.Proofs.Ytchilnjocnkodaa
