/- The document's volume: New, Copy, Same. -/
import Derived.Test.YtfldhmeenbdkiaaGreatDoorRvS
namespace Go.Proofs.YtfldhmeenbdkiaaGreatDoor
open Go.RowKit

theorem Tryz.nodeInfo : (Tryz.prog.info? tRNode).map (fun i => (i.zero, i.size, i.bytes)) = some (some (.agg #[.int .i64 0, .int .i64 0, .string ⟨#[]⟩]), 3, 32) := by kernel_rfl
theorem made_nodes : madeCells #[.int .i64 0, .int .i64 0, .string ⟨#[]⟩] 96 = (nodesL (fun _ => Node.free) 32).toArray := by kernel_rfl
theorem Tryz.rowNode : RowT Tryz.prog 105 tRNode 3 32 := by
  obtain ⟨i0, hi, hz0, hz1, hz2⟩ := info_parts Tryz.nodeInfo
  exact ⟨⟨i0, _, Tryz.underlying105, hi, hz0, hz1, hz2, rfl⟩, by decide, by decide⟩
theorem wpList_make_nodes {w : World} {ops : Array Oper} {rest : List Oper} {o : Oper} {a : Act} {Q : Exit → Act → World → Prop} (hg : o.guard = none) {l c : Operand} (hop : o.op = Op.makeSlice 105 l c)
    (hl : a.eval l = .int .i64 32) (hc : a.eval c = .int .i64 32)
    (hK : wpList Tryz.prog ops Q rest (a.put o.dst (.slice (some ⟨w.heap.size, 0, none⟩) 32 32)) (w.alloc (.cells (nodesL (fun _ => Node.free) 32).toArray tRNode))) :
    wpList Tryz.prog ops Q (o :: rest) a w := by
  refine wpList_plain hg fun K hK' => ?_
  obtain ⟨i, hi, hzz⟩ := Option.map_eq_some_iff.1 Tryz.nodeInfo
  simp only [Prod.mk.injEq] at hzz
  obtain ⟨hz, hs, hb⟩ := hzz
  have hr := run_make (P := Tryz.prog) w 105 tRNode i _ Tryz.underlying105 hi hz .i64 .i64 32 32 (by decide) (by decide) (by rw [hb]; decide) (by decide)
  rw [hs, show (32 : Int).toNat = 32 from rfl, show (32 * 3 : Nat) = 96 from rfl, show (Value.agg #[.int .i64 0, .int .i64 0, .string ⟨#[]⟩]).cells = #[.int .i64 0, .int .i64 0, .string ⟨#[]⟩] from rfl, made_nodes] at hr
  generalize (nodesL (fun _ => Node.free) 32).toArray = NN at hr hK
  unfold Oper.wp
  simp [execOp, hop, hl, hc, hr, Result.andThen]
  exact hK' _ _ hK
theorem row_blk {w : World} {B e n size : Nat} {v : Value} {xs : List Value} (h : w.ownsRow B e size v n xs) (hn : 0 < n) : ∃ g cap sp, v = .slice (some ⟨g, 0, none⟩) n cap ∧ Blk w g e (xs ++ sp) := by
  rcases h.2 with ⟨_, h3⟩ | ⟨g, cap, cur, hv, hb, hg, h4, h5, h6, h7⟩
  · omega
  · refine ⟨g, cap, cur.toList.drop (n * size), hv, ?_⟩
    rw [← h7, List.take_append_drop]
    unfold Blk
    rw [Array.toArray_toList]
    exact hg
theorem nodesL_one (A : Nat → Node) (k : Nat) : ∀ u ∈ nodesL A k, u.oneCell' = true := by
  intro u hu
  obtain ⟨i, _, hi⟩ := List.mem_flatMap.1 hu
  simp [nodeL] at hi
  rcases hi with rfl | rfl | rfl <;> rfl
theorem nodes_srcs {w : World} {nb : Nat} {A : Nat → Node} {sp : List Value} (h : Blk w nb tRNode (nodesL A 32 ++ sp)) (c : Nat) : Srcs w (.slice (some ⟨nb, 0, none⟩) 32 c) 32 3 (nodesL A 32) :=
  ⟨nodesL_length A 32, nodesL_one A 32, .inr ⟨_, _, rfl, fun j u hj => by
    simp only [Addr.add_lit, Nat.zero_add]
    refine h.cell ?_
    rw [List.getElem?_append_left (List.getElem?_eq_some_iff.1 hj).1]; exact hj⟩⟩

section
variable {S0 : Nat → Prop} {w0 w : World} {r nb c m : Nat} {sp : List Value} {A : Nat → Node} {B R : Asr}
theorem mon_rvX (r m : Nat) (A : Nat → Node) : Mon (rvX r m A) := fun w S T ⟨nb, c, sp, h⟩ hT => ⟨nb, c, sp, mon_star _ _ w S T h hT⟩
set_option maxRecDepth 100000 in
set_option maxHeartbeats 1000000 in
theorem rnew_calls (m : Nat) (w : World) : Calls Tryz.prog 27 #[.int .i64 m] w fun e w' => ∃ r, e = .returned (.pointer (some ⟨r, 0, none⟩)) ∧ Lv Nob w (rvA r w.heap.size 32 [] m (fun _ => Node.free)) w' := by
  have LS : Lv Nob w Emp w := (Live.start w).lv
  have L1 := LS.box loc_emp tRNode (nodesL (fun _ => Node.free) 32)
  have hN : (w.alloc (.cells (nodesL (fun _ => Node.free) 32).toArray tRNode)).heap.size = w.heap.size + 1 := by simp
  have L2 := L1.box (loc_star (loc_blk _ _ _) loc_emp) tRVol [.int .i64 m, .slice (some ⟨w.heap.size, 0, none⟩) 32 32]
  rw [hN] at L2
  have HL := Lib.hid L2
  clear L1 L2 LS hN
  go_enter Tryz.func27, Tryz.ntmps27
  go_wp2_with (with_reducible show wpList _ _ _ _ _ _; refine wpList_make_nodes rfl rfl rfl rfl ?_; generalize hNN : nodesL (fun _ => Node.free) 32 = NN at *)
  go_ret
  subst hNN
  refine ⟨_, rfl, HL.out.map fun U h => ?_⟩
  obtain ⟨S, T, h1, ⟨S2, T2, h2, _, _, e3, _⟩, h3, h4, h5⟩ := h
  refine ⟨S, S2, h1, ?_, fun k hk hs => h3 k hk (e3 k hs), h4, fun k hk => h5 k (e3 k hk)⟩
  rw [List.append_nil]
  exact h2

set_option maxRecDepth 100000 in
set_option maxHeartbeats 2000000 in
theorem rcopy_calls (hL : Lv S0 w0 (Star (rvX r m A) B) w) (hB : Loc B) : Calls Tryz.prog 29 #[.pointer (some ⟨r, 0, none⟩)] w fun e w' => ∃ q, e = .returned (.pointer (some ⟨q, 0, none⟩)) ∧ Lv S0 w0 (Star (rvX q m A) (Star (rvX r m A) B)) w' := by
  obtain ⟨nb, c, sp, hL⟩ := rvX_open hL
  have hR : Loc (Star (rvA r nb c sp m A) B) := loc_star (loc_rv _ _ _ _ _ _) hB
  obtain ⟨c0, c1, _⟩ := rv_cells hL
  have hlr : r < w.heap.size := World.block_lt_of_cell? _ _ c0
  have hln := (Lv.drop (Lv.assoc hL)).blk.lt
  have L1 := Lv.box hL hR tRVol [.int .i64 m, .slice none 0 0]
  have b0 := L1.blk.cell (j := 1) rfl
  obtain ⟨e0, e1, _⟩ := rv_cells (L1.map fun _ h => star_flip h)
  have HS := Lib.hid (nodes_srcs (Lv.drop (Lv.assoc (L1.map fun _ h => star_flip h))).blk c)
  have f1 := L1.blk.free 1
  have HLL := Lib.hid hB
  obtain ⟨W1, hW1⟩ : ∃ W1, W1 = w.alloc (.cells #[.int .i64 m, .slice none 0 0] tRVol) := ⟨_, rfl⟩
  obtain ⟨b1, hb1⟩ : ∃ b1, b1 = w.heap.size := ⟨_, rfl⟩
  have hsz : W1.heap.size = b1 + 1 := by rw [hW1, hb1]; simp
  have HW := Lib.hid hW1
  have HBN := Lib.hid hb1
  have HSZ := Lib.hid hsz
  rw [← hW1, ← hb1] at L1 b0 f1
  rw [← hW1] at HS e1
  have HL1 := Lib.hid L1
  have HR := Lib.hid hR
  clear hL L1 hR e0 hln hW1 hb1 hsz hlr
  go_enter Tryz.func29, Tryz.ntmps29
  go_wp2_with fail
  rw [show w.alloc (.cells #[.int .i64 m, .slice none 0 0] tRVol) = W1 from HW.out.symm, ← HBN.out]
  go_region_law (refine step_append_mine rfl (ho := rfl) (s := .tmp 14) (x := .tmp 18) Tryz.rowNode (v := .slice none 0 0) (by simp [Act.eval]) (World.ownsRow_nil _ _ _ _) (src := .slice (some ⟨nb, 0, none⟩) 32 c) (by simp [Act.eval]) (Srcs.fr HS.out ((Fr.refl Nob _).drew) (fun _ _ _ _ h => h)) (by decide) ?_; intro v' w3 hown3 hf3 hv3 _; obtain ⟨g, cap, sp', rfl, hg⟩ := row_blk hown3 (by omega); have hb3 := (HL1.out.blk.drew).fr hf3 (fun e => by cases e); have c3 := hb3.cell (j := 1) rfl; have f3 := hb3.free 1)
  all_goals
    go_wp2_with fail
    go_ret
    have hge := hv3 g rfl
    have hge : W1.heap.size ≤ g := by rcases hge with h | h; cases h; exact h
    have hgl := hg.lt
    rw [List.nil_append] at hg
    have hl1 : Loc (Star (blkA b1 tRVol [.int .i64 m, .slice none 0 0]) (Star (rvA r nb c sp m A) B)) := loc_star (loc_blk _ _ _) HR.out
    have L2 := (HL1.out.drew hl1).new (B := blkA g tRNode (nodesL A 32 ++ sp')) hl1 (hf3.mono fun k e => by cases e) ⟨hg, .inr ⟨hge, hgl⟩⟩
    have L3 := (L2.map fun _ h => star_flip h).turn (loc_star (loc_blk _ _ _) HR.out) (turn_blk 1 (.slice (some ⟨g, 0, none⟩) 32 cap))
    refine ⟨b1, rfl, ?_⟩
    exact (rvX_shut (Lv.assoc' L3)).map fun _ h => star_right h fun _ h => star_left h fun _ h => ⟨nb, c, sp, h⟩

end
end Go.Proofs.YtfldhmeenbdkiaaGreatDoor
