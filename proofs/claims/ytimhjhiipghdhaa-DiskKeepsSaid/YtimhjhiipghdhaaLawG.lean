/- DiskOf, walked. -/
import Derived.Test.YtimhjhiipghdhaaOfB
import Derived.Test.YtimhjhiipghdhaaLawF
namespace Go.Proofs.Ytimhjhiipghdhaa
open Go.RowKit

theorem sec_size {D : DSt} (h : D.Ok) {i : Nat} (hi : i < D.safe.length) : (D.sec i).size = 64 := by
  rcases D.sec_cases hi with ⟨s, h1, h2, _⟩ | ⟨s, h1, h2, _⟩
  · rw [h2]; exact h.size s (List.mem_of_getElem? h1)
  · rw [h2]; exact h.wsize _ h1
theorem write_lives {D : DSt} (h0 : D.off = false) (h1 : D.power = -1) (i : Int) (s : ByteArray) : (D.write i s).off = false ∧ (D.write i s).power = -1 := by
  by_cases h : (i < 0 ∨ (D.safe.length : Int) ≤ i) ∨ s.size ≠ 64
  · rw [(DSt.write_bad h0 h).1]; exact ⟨h0, h1⟩
  · rw [(DSt.write_on h0 h1 (by omega) (by omega) (by omega)).1]; exact ⟨h0, h1⟩
theorem flush_lives {D : DSt} (h0 : D.off = false) (h1 : D.power = -1) : D.flush.off = false ∧ D.flush.power = -1 := by
  rw [(DSt.flush_on h0 h1).1]; exact ⟨h0, h1⟩
theorem text_ne63 {s : ByteArray} (h : s.size = 64) : (s.toList == [63]) = false := by
  rw [beq_eq_false_iff_ne]
  intro e
  have h1 : s.toList = (⟨#[63]⟩ : ByteArray).toList := by rw [e]; decide +kernel
  have h2 := bytes_eq_of (x := s) (y := ⟨#[63]⟩) (by rw [h1]; simp)
  rw [h2] at h
  exact absurd h (by decide)

theorem row_free {w : World} {B e size n m g c : Nat} {xs : List Value} (h : w.ownsRow B e size (.slice (some ⟨g, 0, none⟩) m c) n xs) (j : Nat) : w.frozen? ⟨g, j, none⟩ = false := by
  rcases h.2 with ⟨h0, _⟩ | ⟨g', cap, cur, hv, _, hg, _⟩
  · cases h0
  · simp only [Value.slice.injEq, Option.some.injEq, Addr.mk.injEq, and_true] at hv
    obtain ⟨rfl, _⟩ := hv
    exact frozen_of_row w g j _ e hg

set_option maxRecDepth 100000 in
set_option maxHeartbeats 4000000 in
theorem dof_calls {l : List ByteArray} {ao : Option Addr} {c : Nat} {w : World} (hS : Srcs w (.slice ao l.length c) l.length 1 (strs l)) (hreach : l.length * 16 ≤ 140737488351232) (i : Int) (s : ByteArray) (hs : s.size ≤ 140737488351232) :
    Calls Try.prog 7 #[.slice ao l.length c, .int .i64 i, .string s] w fun e w' => e = .returned (.bool true) ∧ Fr Nob w w' := by
  have HS := Lib.hid hS
  have HR := Lib.hid hreach
  have HZ := Lib.hid hs
  have L0 := Live.start w
  have hll : l.length ≤ 9223372036854775807 := by omega
  have HLL := Lib.hid hll
  clear hS hreach hs hll
  go_enter Try.func7, Try.ntmps7
  go_wp2_with fail
  refine (L0.calls loc_emp (shown_calls w)).mono ?_
  rintro e w1 ⟨rfl, L1⟩
  clear L0
  have hown : (w1.alloc (.cells #[] tStr)).ownsRow 0 tStr 1 (.slice (some ⟨w1.heap.size, 0, none⟩) 0 0) 0 [] := World.ownsRow_made w1 #[] 0 (Nat.zero_le _) (by unfold maxLen; omega) rfl
  have HW1 := Lib.hid hown
  have HS1 : Hid (Srcs w1 (.slice ao l.length c) l.length 1 (strs l)) := HS.out.fr L1.fr (fun _ _ _ _ h => h)
  have haf : ∀ (v' : Value) (w2 : World), w2.ownsRow 0 tStr 1 v' (0 + l.length) ([] ++ strs l) → Fr (fun k => (Value.slice (some ⟨w1.heap.size, 0, none⟩) 0 0).ownBlock = some k) (w1.alloc (.cells #[] tStr)) w2 →
      (∀ k, v'.ownBlock = some k → (Value.slice (some ⟨w1.heap.size, 0, none⟩) 0 0).ownBlock = some k ∨ (w1.alloc (.cells #[] tStr)).heap.size ≤ k) → Live w (Star (rowA tStr 1 v' l.length (strs l)) Emp) w2 := by
    intro v' w2 h1 h2 h3
    rw [Nat.zero_add, List.nil_append] at h1
    refine L1.new loc_emp (((Fr.refl Nob w1).alloc _).trans' h2 (fun i hi e => by have : w1.heap.size = i := Option.some.inj e; omega)) ⟨h1, fun k hk => .inr ⟨?_, (h1.lt k hk).2⟩⟩
    rcases h3 k hk with h | h
    · have : w1.heap.size = k := Option.some.inj h
      omega
    · exact Nat.le_of_succ_le (by simpa using h)
  have HAF := Lib.hid haf
  clear hown L1 haf
  go_wp2_with (at_builtin; refine wpList_append_mine rfl (ho := rfl) (s := .tmp 18) (x := .tmp 19) Try.rowStr rfl HW1.out rfl (HS1.out.alloc _) (by have := HR.out; omega) ?_; intro v' w2 hown2 hf2 hv2 _; have L2 := HAF.out v' w2 hown2 hf2 hv2; obtain ⟨ao2, c2, rfl⟩ := row_any hown2)
  refine (of_calls (HS.out.fr L2.fr (fun _ _ _ _ h => h)) HLL.out).mono ?_
  rintro e w3 ⟨hf3, hd⟩
  clear hown2 hf2 hv2
  rw [Nat.zero_add] at L2
  rcases hd with ⟨hno, rfl⟩ | ⟨hyes, b, rfl, hd⟩
  · have L3 := L2.keep (loc_star (loc_row _ _ _ _ _) loc_emp) hf3
    clear L2 hf3
    go_wp2_with fail
    refine (rof_calls (HS.out.fr L3.fr (fun _ _ _ _ h => h)) HLL.out).mono ?_
    rintro e w4 ⟨hf4, hd4⟩
    rcases hd4 with ⟨_, rfl⟩ | ⟨hy, _⟩
    · have HF := Lib.hid (L3.fr.trans hf4)
      clear L3 hf4 hno
      go_wp2_with fail
      go_ret
      exact ⟨rfl, HF.out⟩
    · exact absurd hy hno
  · have L3 : Live w (Star (dskA kD b (DSt.of l)) (Star (rowA tStr 1 (.slice ao2 l.length c2) l.length (strs l)) Emp)) w3 := L2.new (loc_star (loc_row _ _ _ _ _) loc_emp) hf3 hd
    clear L2 hf3 hd
    go_wp2_with fail
    refine (rof_calls (HS.out.fr L3.fr (fun _ _ _ _ h => h)) HLL.out).mono ?_
    rintro e w4 ⟨hf4, hd4⟩
    rcases hd4 with ⟨hno, _⟩ | ⟨_, r, rfl, _⟩
    · exact absurd hyes hno
    have L4 := L3.keep (loc_star (loc_dsk _ _ _) (loc_star (loc_row _ _ _ _ _) loc_emp)) hf4
    have HY := Lib.hid hyes
    clear L3 hf4 hyes
    go_wp2_with fail
    obtain ⟨S5, h5⟩ := L4.first
    refine (image_calls h5).mono ?_
    rintro e w5 ⟨v5, rfl, hrow5, hnew5, hf5⟩
    have hne : 48 ≤ l.length := HY.out.1
    obtain ⟨g5, c5, rfl⟩ : ∃ g cap, v5 = .slice (some ⟨g, 0, none⟩) l.length cap := (row_form hrow5).elim (fun h => by have := h.2; simp [DSt.of] at this; simp [this] at hne) id
    have hrow5' : w5.ownsRow 0 tStr 1 (.slice (some ⟨g5, 0, none⟩) l.length c5) l.length (strs l) := hrow5
    have L5 : Live w (Star (rowA tStr 1 (.slice (some ⟨g5, 0, none⟩) l.length c5) l.length (strs l)) (Star (dskA kD b (DSt.of l)) (Star (rowA tStr 1 (.slice ao2 l.length c2) l.length (strs l)) Emp))) w5 :=
      L4.new (loc_star (loc_dsk _ _ _) (loc_star (loc_row _ _ _ _ _) loc_emp)) hf5 ⟨hrow5', fun k hk => .inr ⟨hnew5 k hk, (hrow5'.lt k hk).2⟩⟩
    clear L4 h5 hrow5 hrow5' hnew5 hf5
    go_wp2_with fail
    obtain ⟨S6, h6⟩ := L5.first
    obtain ⟨T6, S7, S8, _, ⟨S9, S10, h7, _⟩, _⟩ := L5.second
    refine (L5.calls (loc_star (loc_row _ _ _ _ _) (loc_star (loc_dsk _ _ _) (loc_star (loc_row _ _ _ _ _) loc_emp))) (same_self HLL.out (row_srcs h6.1 (strs_one _)) (row_srcs h7.1 (strs_one _)))).mono ?_
    rintro e w6 ⟨rfl, L6⟩
    clear L5 h6 h7
    obtain ⟨S6, h6⟩ := L6.first
    obtain ⟨y0, hy0⟩ : ∃ y0, l[0]? = some y0 := ⟨_, List.getElem?_eq_getElem (by omega)⟩
    have c0 := h6.1.cells (g := g5) rfl 0 (.string y0) (by simp [strs, hy0])
    simp only [Addr.add_lit, Nat.zero_add] at c0
    have f0 : w6.frozen? ⟨g5, 0, none⟩ = false := row_free h6.1 0
    have hpos : (0 : Int) < (l.length : Int) := by omega
    have L7 : Live w (Star Emp (Star (dskA kD b (DSt.of l)) (Star (rowA tStr 1 (.slice ao2 l.length c2) l.length (strs l)) Emp))) (w6.setCell ⟨g5, 0, none⟩ (.string ⟨#[63]⟩)) :=
      L6.turn (loc_star (loc_dsk _ _ _) (loc_star (loc_row _ _ _ _ _) loc_emp)) (fun S h => ⟨trivial, Fr.setCell (h.2 g5 rfl) _ _ _⟩)
    clear L6 h6 hy0
    go_wp2_with fail
    refine (L7.drop.calls (loc_star (loc_dsk _ _ _) (loc_star (loc_row _ _ _ _ _) loc_emp)) (sector_calls s _ (by have := HZ.out; omega))).mono ?_
    rintro e w8 ⟨rfl, L8⟩
    clear L7 c0 f0
    go_wp2_with fail
    refine (L8.op ((d_write i (secOf s) (by show (0 + 1) * 24 ≤ 140737488355328; decide)).left (loc_star (loc_row _ _ _ _ _) loc_emp))).mono ?_
    rintro e w9 ⟨rfl, L9⟩
    clear L8
    have hk := write_keeps (DSt.of l) i (secOf s)
    have hv := write_lives (D := DSt.of l) rfl rfl i (secOf s)
    obtain ⟨D1, hD1⟩ : ∃ D1, D1 = (DSt.of l).write i (secOf s) := ⟨_, rfl⟩
    rw [← hD1] at hk hv L9
    have hk2 := flush_keeps D1
    have hv2 := flush_lives hv.1 hv.2
    have hw1 : D1.wait.length ≤ 1 := hk.2
    have hw2 : D1.flush.wait.length ≤ 1 := Nat.le_trans hk2.2 hw1
    have hsl : D1.flush.safe.length = l.length := hk2.1.trans hk.1
    clear hk hv hk2
    have hEE : (DSt.of l).writeE i (secOf s) = (DSt.of l).writeE i (secOf s) := rfl
    generalize (DSt.of l).writeE i (secOf s) = ee
    clear hEE hD1
    go_wp2_with fail
    refine (L9.op ((d_flush (by omega)).left (loc_star (loc_row _ _ _ _ _) loc_emp))).mono ?_
    rintro e w10 ⟨rfl, L10⟩
    clear L9
    generalize D1.flushE = ef
    obtain ⟨D2, hD2⟩ : ∃ D2, D2 = D1.flush := ⟨_, rfl⟩
    rw [← hD2] at hv2 hw2 hsl L10
    clear hD2 hw1
    go_wp2_with fail
    obtain ⟨T11, S11, _, h11, _⟩ := L10.second
    refine (L10.calls (loc_star (loc_dsk _ _ _) (loc_star (loc_row _ _ _ _ _) loc_emp)) (same_self HLL.out (HS.out.fr L10.fr (fun _ _ _ _ h => h)) (row_srcs h11.1 (strs_one _)))).mono ?_
    rintro e w11 ⟨rfl, L11⟩
    clear L10 h11
    go_wp2_with fail
    obtain ⟨S12, h12⟩ := L11.first
    have hok : D2.Ok := by obtain ⟨_, _, _, _, h⟩ := h12; exact h.ok
    have h64 : (D2.readS 0).size = 64 := by
      obtain ⟨e1, _⟩ := DSt.read_on hv2.1 (i := 0) (by omega) (by omega)
      rw [e1]
      exact sec_size hok (by simp; omega)
    have hne63 := text_ne63 h64
    refine (L11.op ((d_read 0 (by omega)).left (loc_star (loc_row _ _ _ _ _) loc_emp))).mono ?_
    rintro e w12 ⟨rfl, L12⟩
    have HF := Lib.hid L12.fr
    clear L11 L12 h12 hok hv2 hw2 hsl h64
    go_wp2_with fail
    go_ret
    exact ⟨rfl, HF.out⟩
end Go.Proofs.Ytimhjhiipghdhaa
