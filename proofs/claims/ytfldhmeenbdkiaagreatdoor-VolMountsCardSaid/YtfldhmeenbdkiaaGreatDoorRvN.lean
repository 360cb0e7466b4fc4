/- The document's reading of an inode's bytes. -/
import Derived.Test.YtfldhmeenbdkiaaGreatDoorRvT
import Derived.Test.YtfldhmeenbdkiaaGreatDoorVpO
import Derived.Test.YtfldhmeenbdkiaaGreatDoorVrT
namespace Go.Proofs.YtfldhmeenbdkiaaGreatDoor
open Go.RowKit

def lstX (X : Sec) (x : Ino) (k : Nat) : List Nat := (List.range k).map (xat X x)
theorem lst_succ (X : Sec) (x : Ino) (k : Nat) : lstX X x (k + 1) = lstX X x k ++ [xat X x k] := by unfold lstX; rw [List.range_succ, List.map_append]; rfl
theorem lst_len (X : Sec) (x : Ino) (k : Nat) : (lstX X x k).length = k := by simp [lstX]
theorem lst_get (X : Sec) (x : Ino) {k j : Nat} (h : j < k) : (nums (lstX X x k))[j]? = some (.int .i64 (xat X x j : Nat)) := by simp [nums, lstX, h]
def bytesTo (X : Sec) (x : Ino) (k : Nat) : List UInt8 := (List.range k).flatMap fun j => (X (xat X x j)).data.toList
theorem bytesTo_succ (X : Sec) (x : Ino) (k : Nat) : bytesTo X x (k + 1) = bytesTo X x k ++ (X (xat X x k)).data.toList := by unfold bytesTo; rw [List.range_succ, List.flatMap_append]; simp
def secL (X : Sec) (m : Nat) : List Value := (List.range m).map fun i => .string (X i)
theorem secL_get (X : Sec) {m i : Nat} (h : i < m) : (secL X m)[i]? = some (.string (X i)) := by simp [secL, h]
def nodeV (a : Node) : Value := .agg (nodeL a).toArray
abbrev zeroN : List Value := [.int .i64 0, .int .i64 0, .string ⟨#[]⟩]

section
variable {m : Nat} {X : Sec} {x : Ino}
theorem bytesTo_len (hs : ∀ i, i < m → (X i).size = 64) {n : Nat} (h : ∀ k, k < n → xat X x k < m) : ∀ j, j ≤ n → (bytesTo X x j).length = 64 * j
  | 0, _ => rfl
  | j + 1, hj => by
    rw [bytesTo_succ, List.length_append, bytesTo_len hs h j (by omega), bytes_len, hs _ (h j (by omega))]
    omega
theorem bytesTo_at (hs : ∀ i, i < m → (X i).size = 64) {n : Nat} (h : ∀ k, k < n → xat X x k < m) : ∀ j, j ≤ n → ∀ p, p < 64 * j → (bytesTo X x j)[p]? = some (UInt8.ofNat (fbyte X x p))
  | 0, _, p, hp => by omega
  | j + 1, hj, p, hp => by
    have hl := bytesTo_len hs h j (by omega)
    rw [bytesTo_succ]
    by_cases h1 : p < 64 * j
    · rw [List.getElem?_append_left (by omega)]
      exact bytesTo_at hs h j (by omega) p h1
    · rw [List.getElem?_append_right (by omega), hl, byte_u8 _ (by rw [hs _ (h j (by omega))]; omega)]
      unfold fbyte
      rw [show p / 64 = j by omega, show p % 64 = p - 64 * j by omega]
theorem bytesTo_data (hs : ∀ i, i < m → (X i).size = 64) (h : ∀ k, k < sectorsP x.size → xat X x k < m) : (bytesTo X x (sectorsP x.size)).take x.size = dataX X x := by
  apply List.ext_getElem?
  intro p
  rw [List.getElem?_take]
  by_cases hp : p < x.size
  · rw [if_pos hp, dataX_at X _ hp]
    exact bytesTo_at hs h _ (Nat.le_refl _) p (by unfold sectorsP; omega)
  · rw [if_neg hp, List.getElem?_eq_none (by rw [dataX_length]; omega)]
end

set_option maxRecDepth 100000 in
set_option maxHeartbeats 1000000 in
theorem rtwo_calls {s : ByteArray} {i : Nat} (h : i + 1 < s.size) (hi : i ≤ 1000) (w : World) :
    Calls Tryz.prog 90 #[.string s, .int .i64 i] w fun e w' => e = .returned (.int .i64 (twoAt s i : Nat)) ∧ Fr Nob w w' := by
  obtain ⟨x1, e1⟩ : ∃ x, x = byteAt s i := ⟨_, rfl⟩
  obtain ⟨x2, e2⟩ : ∃ x, x = byteAt s (i + 1) := ⟨_, rfl⟩
  have hx1 : x1 < 256 := by rw [e1]; exact byteAt_lt _ _
  have hx2 : x2 < 256 := by rw [e2]; exact byteAt_lt _ _
  have d1 : ∀ W : World, (Instr.index 9 (.string s) (.int .i64 (i : Int))).run Tryz.prog W = .ok (.int .u8 (x1 : Int)) W := fun W => by
    rw [e1, byteAt_get (by omega)]; exact run_index_at (by omega) (by omega)
  have d2 : ∀ W : World, (Instr.index 9 (.string s) (.int .i64 ((i : Int) + 1))).run Tryz.prog W = .ok (.int .u8 (x2 : Int)) W := fun W => by
    rw [e2, byteAt_get h]; exact run_index_at (by omega) h
  have w1 : IntKind.i64.wrap ((i : Int) + 1) = (i : Int) + 1 := by rw [IntKind.wrap_i64] <;> omega
  have w2 : IntKind.i64.wrap (x1 : Int) = (x1 : Int) := by rw [IntKind.wrap_i64] <;> omega
  have w3 : IntKind.i64.wrap (x2 : Int) = (x2 : Int) := by rw [IntKind.wrap_i64] <;> omega
  have w4 : IntKind.i64.wrap (256 * (x2 : Int)) = 256 * (x2 : Int) := by rw [IntKind.wrap_i64] <;> omega
  have w5 : IntKind.i64.wrap ((x1 : Int) + 256 * (x2 : Int)) = (x1 : Int) + 256 * (x2 : Int) := by rw [IntKind.wrap_i64] <;> omega
  have ht : ((twoAt s i : Nat) : Int) = (x1 : Int) + 256 * (x2 : Int) := by unfold twoAt; rw [← e1, ← e2]; omega
  rw [ht]
  clear ht e1 e2 h hi hx1 hx2
  go_enter Tryz.func90, Tryz.ntmps90
  go_wp2_with fail
  go_quiet (fail)
  go_wp2_with fail
  go_ret
  exact ⟨rfl, (Fr.refl _ _).drewN _⟩
section
variable {P : Program} {w : World} {b e : Nat} {cs : List Value}
theorem results_blk_tmp2 {fn : Func} {p t u : Tmp} {ty : TypeId} (h : fn.results = #[.cell p ty, .tmp t, .tmp u]) {tmps : Array Value} (hp : tmps.getD p undef = .pointer (some ⟨b, 0, none⟩)) (hb : Blk w b e cs) {d : TypeDesc}
    (hu : P.underlying ty = some d) (hd : (match d with | .struct _ | .array _ _ => true | _ => false) = true) (hi : (P.info? ty).map (·.size) = some cs.length) :
    (results fn tmps).run P w = .ok (.tuple #[.agg cs.toArray, tmps.getD t undef, tmps.getD u undef]) w := by
  have hp' : tmps[p]?.getD undef = .pointer (some ⟨b, 0, none⟩) := by simpa using hp
  simp [results, h, hp', asAddr, run_loadVar_row w b e ty cs.toArray (0, 0) d hb hu hd (by simpa using hi)]
end
theorem made16 : madeCells #[Value.int .u8 0] 16 = #[Value.int .u8 0, Value.int .u8 0, Value.int .u8 0, Value.int .u8 0, Value.int .u8 0, Value.int .u8 0, Value.int .u8 0, Value.int .u8 0, Value.int .u8 0, Value.int .u8 0, Value.int .u8 0, Value.int .u8 0, Value.int .u8 0, Value.int .u8 0, Value.int .u8 0, Value.int .u8 0] := by kernel_rfl
theorem conv16 {W : World} {g : Nat} (hb : Blk W g 5 (List.replicate 16 (.int .u8 0))) :
    (convert 76 9 (.slice (some ⟨g, 0, none⟩) 16 16)).run Tryz.prog W = .ok (.string ⟨(List.replicate 16 (0 : UInt8)).toArray⟩) W := by
  have hr := run_loadCells_list (P := Tryz.prog) (w := W) ⟨g, 0, none⟩ ((List.replicate 16 (0 : Int)).map (Value.int .u8)) (fun j v hv => by simp only [Addr.add_lit, Nat.zero_add]; exact hb.cell hv)
  rw [List.length_map, List.length_replicate] at hr
  have h1 := run_bytesToString (P := Tryz.prog) W ⟨g, 0, none⟩ 16 16 (List.replicate 16 0) hr
  exact (run_convert_bytes_string (P := Tryz.prog) W 76 9 5 (some ⟨g, 0, none⟩) 16 16 Tryz.underlying76 Tryz.underlying5 Tryz.underlying9).trans h1
theorem row_take {w : World} {B e n k g cap : Nat} {xs : List Value} (h : w.ownsRow B e 1 (.slice (some ⟨g, 0, none⟩) n cap) n xs) (hk : k ≤ n) : w.ownsRow B e 1 (.slice (some ⟨g, 0, none⟩) k cap) k (xs.take k) := by
  obtain ⟨h1, h2⟩ := h
  rcases h2 with ⟨h3, _⟩ | ⟨g', cap', cur, hv, hb, hg, h4, h5, h6, h7⟩
  · cases h3
  · simp only [Value.slice.injEq, Option.some.injEq, Addr.mk.injEq, and_true, true_and] at hv
    obtain ⟨rfl, rfl⟩ := hv
    refine ⟨by rw [List.length_take]; omega, .inr ⟨g, cap, cur, rfl, hb, hg, by omega, h5, h6, ?_⟩⟩
    rw [← h7, List.take_take, Nat.mul_one, Nat.mul_one, Nat.min_eq_left hk]
theorem row_cap' {w : World} {B e n cap : Nat} {ao : Option Addr} {xs : List Value} (h : w.ownsRow B e 1 (.slice ao n cap) n xs) : n ≤ cap := by
  rcases h.2 with ⟨h3, _⟩ | ⟨g', cap', cur, hv, hb, hg, h4, _⟩
  · simp only [Value.slice.injEq] at h3; omega
  · simp only [Value.slice.injEq, true_and] at hv
    obtain ⟨rfl, rfl⟩ := hv
    exact h4
theorem row_cap {w : World} {B e n g cap : Nat} {xs : List Value} (h : w.ownsRow B e 1 (.slice (some ⟨g, 0, none⟩) n cap) n xs) : n ≤ cap := by
  rcases h.2 with ⟨h3, _⟩ | ⟨g', cap', cur, hv, hb, hg, h4, _⟩
  · cases h3
  · simp only [Value.slice.injEq, Option.some.injEq, Addr.mk.injEq, and_true, true_and] at hv
    obtain ⟨rfl, rfl⟩ := hv
    exact h4
theorem secs_cells {w : World} {ho : Option Addr} {m hc : Nat} {X : Sec} (hs : Srcs w (.slice ho m hc) m 1 (secL X m)) (h : 0 < m) : ∃ g off, ho = some ⟨g, off, none⟩ ∧ ∀ i, i < m → w.cell? ⟨g, off + i, none⟩ = some (.string (X i)) := by
  obtain ⟨g, off, e, c0⟩ := hs.at (secL_get X h)
  refine ⟨g, off, e, fun i hi => ?_⟩
  obtain ⟨g1, o1, e1, c1⟩ := hs.at (secL_get X hi)
  rw [e] at e1
  simp only [Option.some.injEq, Addr.mk.injEq, and_true] at e1
  obtain ⟨rfl, rfl⟩ := e1
  exact c1

theorem set3_fr (w : World) (b : Nat) (v0 v1 v2 : Value) : Fr (· = b) w (((w.setCell ⟨b, 0, none⟩ v0).setCell ⟨b, 1, none⟩ v1).setCell ⟨b, 2, none⟩ v2) :=
  ((Fr.setCell (S := (· = b)) rfl w 0 v0).trans (Fr.setCell (S := (· = b)) rfl _ 1 v1)).trans (Fr.setCell (S := (· = b)) rfl _ 2 v2)
/-- What the reading of an inode comes to. -/
def NodePost (m : Nat) (X : Sec) (x : Ino) (w : World) (e : Ending) (w' : World) : Prop := Fr Nob w w' ∧
  ((InoP m X x ∧ ∃ v, e = .returned (.tuple #[nodeV (nodeX X x), v, .bool true]) ∧ w'.ownsRow 0 tIntE 1 v (ownL X x).length (nums (ownL X x)) ∧ ∀ k, v.ownBlock = some k → w.heap.size ≤ k) ∨
   (¬ InoP m X x ∧ e = .returned (.tuple #[nodeV Node.free, .slice none 0 0, .bool false])))
theorem NodePost.bad {m : Nat} {X : Sec} {x : Ino} {w w5 w6 : World} (hf : Fr Nob w w5) (hf6 : Fr (· = w.heap.size) w5 w6) (h : ¬ InoP m X x) :
    NodePost m X x w (.returned (.tuple #[.agg zeroN.toArray, .slice none 0 0, .bool false])) w6 :=
  ⟨hf.trans' hf6 (fun i hi e => by omega), .inr ⟨h, rfl⟩⟩
theorem NodePost.good {m : Nat} {X : Sec} {x : Ino} {w w5 w6 : World} {v : Value} {data : ByteArray} {l : List Nat} (hf : Fr Nob w w5) (hf6 : Fr (· = w.heap.size) w5 w6) (h : InoP m X x)
    (hown : w5.ownsRow 0 tIntE 1 v l.length (nums l)) (hnew : ∀ k, v.ownBlock = some k → w.heap.size + 1 ≤ k) (hl : l = ownL X x) (hd : data.data.toList = dataX X x) :
    NodePost m X x w (.returned (.tuple #[.agg #[.int .i64 x.kind, .int .i64 x.links, .string data], v, .bool true])) w6 := by
  refine ⟨hf.trans' hf6 (fun i hi e => by omega), .inl ⟨h, v, ?_, ?_, fun k hk => by have := hnew k hk; omega⟩⟩
  · have : data = dataB (nodeX X x) := by
      unfold dataB nodeX
      rw [← hd]
    rw [this]; rfl
  · rw [← hl]
    exact row_fr hown hf6 (fun k hk e => by have := hnew k hk; omega)
theorem two_lt (s : ByteArray) (i : Nat) : twoAt s i < 65536 := by have := byteAt_lt s i; have := byteAt_lt s (i + 1); unfold twoAt; omega
theorem get_two (s : ByteArray) {k : Nat} (h : k < 6) : (decodeP s).get k = twoAt s (4 + 2 * k) := by
  obtain rfl | rfl | rfl | rfl | rfl | rfl : k = 0 ∨ k = 1 ∨ k = 2 ∨ k = 3 ∨ k = 4 ∨ k = 5 := by omega
  all_goals rfl
theorem byteAt_zero {s : ByteArray} (h : s = ⟨(List.replicate 16 (0 : UInt8)).toArray⟩) (i : Nat) : byteAt s i = 0 := by
  subst h
  unfold byteAt
  rw [List.getD]
  rcases Nat.lt_or_ge i 16 with h | h
  · rw [show (List.replicate 16 (0 : UInt8)).toArray.toList = List.replicate 16 0 from rfl, List.getElem?_replicate, if_pos h]; rfl
  · rw [show (List.replicate 16 (0 : UInt8)).toArray.toList = List.replicate 16 0 from rfl, List.getElem?_replicate, if_neg (Nat.not_lt.2 h)]; rfl
theorem free_bytes {s : ByteArray} (h : s.size = 16) : decodeP s = Ino.free ↔ s = ⟨(List.replicate 16 (0 : UInt8)).toArray⟩ := by
  constructor
  · intro e
    have hl := bytes_len s
    refine bytes_of (List.ext_getElem? fun i => ?_)
    by_cases hi : i < 16
    · rw [byte_u8 s (by omega)]
      have hz : byteAt s i = 0 := by
        unfold decodeP Ino.free at e
        simp only [Ino.mk.injEq] at e
        obtain ⟨e0, e1, e2, e3, e4, e5, e6, e7, e8⟩ := e
        simp only [twoAt, Nat.reduceAdd] at e2 e3 e4 e5 e6 e7 e8
        obtain rfl | rfl | rfl | rfl | rfl | rfl | rfl | rfl | rfl | rfl | rfl | rfl | rfl | rfl | rfl | rfl : i = 0 ∨ i = 1 ∨ i = 2 ∨ i = 3 ∨ i = 4 ∨ i = 5 ∨ i = 6 ∨ i = 7 ∨ i = 8 ∨ i = 9 ∨ i = 10 ∨ i = 11 ∨ i = 12 ∨ i = 13 ∨ i = 14 ∨ i = 15 := by omega
        all_goals (first | assumption | omega)
      rw [hz, show (⟨(List.replicate 16 (0 : UInt8)).toArray⟩ : ByteArray).data.toList = List.replicate 16 0 from rfl, List.getElem?_replicate, if_pos hi]
      rfl
    · rw [List.getElem?_eq_none (by omega), List.getElem?_eq_none (by simp; omega)]
  · intro e
    have hz := byteAt_zero e
    unfold decodeP Ino.free twoAt
    simp only [hz]
theorem free_inop {m : Nat} {X : Sec} : InoP m X Ino.free :=
  ⟨fun _ => rfl, by decide, by decide, fun _ => rfl, fun h => by simp [Ino.free, sectorsP] at h, fun k h => by simp [Ino.free, sectorsP] at h, fun k hk _ h => by
    rcases h with h | h
    · unfold xat; rw [if_pos h]
      obtain rfl | rfl | rfl | rfl | rfl : k = 0 ∨ k = 1 ∨ k = 2 ∨ k = 3 ∨ k = 4 := by omega
      all_goals rfl
    · simp [Ino.free, sectorsP] at h⟩

set_option maxRecDepth 100000 in
set_option maxHeartbeats 16000000 in
theorem rnode_calls {w : World} {m : Nat} {X : Sec} {ho : Option Addr} {hc : Nat} (hs : Srcs w (.slice ho m hc) m 1 (secL X m)) (hX : ∀ i, i < m → (X i).size = 64) (h16 : 16 ≤ m) (hm : m ≤ 512) {s : ByteArray} (h : s.size = 16) :
    Calls Tryz.prog 49 #[.slice ho m hc, .string s] w (NodePost m X (decodeP s) w) := by
  obtain ⟨hg, off, rfl, hcells⟩ := secs_cells hs (by omega)
  obtain ⟨x, hx⟩ : ∃ x, x = decodeP s := ⟨_, rfl⟩
  have k0 : byteAt s 0 = x.kind := by rw [hx]; rfl
  have k1 : byteAt s 1 = x.links := by rw [hx]; rfl
  have hk256 : x.kind < 256 := by rw [← k0]; exact byteAt_lt _ _
  have hl256 : x.links < 256 := by rw [← k1]; exact byteAt_lt _ _
  have hz65 : x.size < 65536 := by rw [hx]; exact two_lt s 2
  have ha65 : x.a5 < 65536 := by rw [hx]; exact two_lt s 14
  have hg65 : ∀ k, k < 5 → x.get k < 65536 := fun k hk => by rw [hx, get_two s (by omega)]; exact two_lt _ _
  have d0 : ∀ W : World, (Instr.index 9 (.string s) (.int .i64 0)).run Tryz.prog W = .ok (.int .u8 (x.kind : Int)) W := fun W => by
    rw [← k0, byteAt_get (by omega)]; exact run_index_at (by omega) (by omega)
  have d1 : ∀ W : World, (Instr.index 9 (.string s) (.int .i64 1)).run Tryz.prog W = .ok (.int .u8 (x.links : Int)) W := fun W => by
    rw [← k1, byteAt_get (by omega)]; exact run_index_at (by omega) (by omega)
  have H2 : ∀ W : World, Calls Tryz.prog 90 #[.string s, .int .i64 2] W fun e w' => e = .returned (.int .i64 (x.size : Nat)) ∧ Fr Nob W w' := fun W => by
    rw [hx]; exact rtwo_calls (i := 2) (by omega) (by omega) W
  have H14 : ∀ W : World, Calls Tryz.prog 90 #[.string s, .int .i64 14] W fun e w' => e = .returned (.int .i64 (x.a5 : Nat)) ∧ Fr Nob W w' := fun W => by
    rw [hx]; exact rtwo_calls (i := 14) (by omega) (by omega) W
  have HK : ∀ (k : Nat), k < 5 → ∀ W : World, Calls Tryz.prog 90 #[.string s, .int .i64 (4 + 2 * (k : Int))] W fun e w' => e = .returned (.int .i64 (xat X x k : Nat)) ∧ Fr Nob W w' := fun k hk W => by
    have : xat X x k = twoAt s (4 + 2 * k) := by unfold xat; rw [if_pos hk, hx, get_two s (by omega)]
    rw [this]
    have := rtwo_calls (s := s) (i := 4 + 2 * k) (by omega) (by omega) W
    rwa [show (((4 + 2 * k : Nat)) : Int) = 4 + 2 * (k : Int) by omega] at this
  have H2 := Lib.hid H2
  have H14 := Lib.hid H14
  have HK := Lib.hid HK
  have HC := Lib.hid hcells
  have HFB := Lib.hid (free_bytes h)
  rw [← hx] at HFB ⊢
  have HX := Lib.hid hX
  have HM := Lib.hid hm
  have H16 := Lib.hid h16
  have HX65 := Lib.hid ha65
  have HG65 := Lib.hid hg65
  clear hcells hs hX hm h16 h hx k0 k1 ha65 hg65
  have HB1 := Lib.hid (Blk.new w tRNode zeroN)
  have HF1 : Hid (Fr Nob w (w.alloc (.cells zeroN.toArray tRNode))) := Lib.hid ((Fr.refl Nob w).alloc _)
  have wk : IntKind.i64.wrap (x.kind : Int) = (x.kind : Int) := by rw [IntKind.wrap_i64] <;> omega
  have wl : IntKind.i64.wrap (x.links : Int) = (x.links : Int) := by rw [IntKind.wrap_i64] <;> omega
  by_cases hk0 : x.kind = 0
  · have hkz : (x.kind : Int) = 0 := by omega
    rw [hkz] at d0
    have HKZ := Lib.hid hk0
    have hmk : ∀ W : World, (Instr.makeSlice 76 (.int .i64 16) (.int .i64 16)).run Tryz.prog W = .ok (.slice (some ⟨W.heap.size, 0, none⟩) 16 16) (W.alloc (.cells #[.int .u8 0, .int .u8 0, .int .u8 0, .int .u8 0, .int .u8 0, .int .u8 0, .int .u8 0, .int .u8 0, .int .u8 0, .int .u8 0, .int .u8 0, .int .u8 0, .int .u8 0, .int .u8 0, .int .u8 0, .int .u8 0] 5)) := fun W => by
      have := run_make_row' (P := Tryz.prog) 76 5 (.int .u8 0) 1 Tryz.underlying76 Tryz.infoU8 rfl .i64 .i64 16 (by decide) (by decide) W
      rw [made16] at this
      exact this
    obtain ⟨z, hz⟩ : ∃ z : ByteArray, z = ⟨(List.replicate 16 (0 : UInt8)).toArray⟩ := ⟨_, rfl⟩
    obtain ⟨W1, hW1⟩ : ∃ W1, W1 = w.alloc (.cells zeroN.toArray tRNode) := ⟨_, rfl⟩
    rw [← hW1] at HB1 HF1
    have hlt1 := HB1.out.lt
    have hc1 : (convert 76 9 (.slice (some ⟨W1.heap.size, 0, none⟩) 16 16)).run Tryz.prog (W1.alloc (.cells #[.int .u8 0, .int .u8 0, .int .u8 0, .int .u8 0, .int .u8 0, .int .u8 0, .int .u8 0, .int .u8 0, .int .u8 0, .int .u8 0, .int .u8 0, .int .u8 0, .int .u8 0, .int .u8 0, .int .u8 0, .int .u8 0] 5)).drew = .ok (.string z) (W1.alloc (.cells #[.int .u8 0, .int .u8 0, .int .u8 0, .int .u8 0, .int .u8 0, .int .u8 0, .int .u8 0, .int .u8 0, .int .u8 0, .int .u8 0, .int .u8 0, .int .u8 0, .int .u8 0, .int .u8 0, .int .u8 0, .int .u8 0] 5)).drew := by
      rw [hz]; exact conv16 ((Blk.new W1 5 (List.replicate 16 (.int .u8 0))).drew)
    have hc2 : (convert 76 9 (.slice (some ⟨W1.heap.size, 0, none⟩) 16 16)).run Tryz.prog ((((W1.setCell ⟨w.heap.size, 0, none⟩ (.int .i64 0)).setCell ⟨w.heap.size, 1, none⟩ (.int .i64 0)).setCell ⟨w.heap.size, 2, none⟩ (.string ⟨#[]⟩)).alloc (.cells #[.int .u8 0, .int .u8 0, .int .u8 0, .int .u8 0, .int .u8 0, .int .u8 0, .int .u8 0, .int .u8 0, .int .u8 0, .int .u8 0, .int .u8 0, .int .u8 0, .int .u8 0, .int .u8 0, .int .u8 0, .int .u8 0] 5)).drew = .ok (.string z) ((((W1.setCell ⟨w.heap.size, 0, none⟩ (.int .i64 0)).setCell ⟨w.heap.size, 1, none⟩ (.int .i64 0)).setCell ⟨w.heap.size, 2, none⟩ (.string ⟨#[]⟩)).alloc (.cells #[.int .u8 0, .int .u8 0, .int .u8 0, .int .u8 0, .int .u8 0, .int .u8 0, .int .u8 0, .int .u8 0, .int .u8 0, .int .u8 0, .int .u8 0, .int .u8 0, .int .u8 0, .int .u8 0, .int .u8 0, .int .u8 0] 5)).drew := by
      rw [hz]
      have := conv16 ((Blk.new (((W1.setCell ⟨w.heap.size, 0, none⟩ (.int .i64 0)).setCell ⟨w.heap.size, 1, none⟩ (.int .i64 0)).setCell ⟨w.heap.size, 2, none⟩ (.string ⟨#[]⟩)) 5 (List.replicate 16 (.int .u8 0))).drew)
      simp only [World.size_setCell] at this
      exact this
    have hc3 : (convert 76 9 (.slice (some ⟨W1.heap.size, 0, none⟩) 16 16)).run Tryz.prog ((((W1.alloc (.cells #[.int .u8 0, .int .u8 0, .int .u8 0, .int .u8 0, .int .u8 0, .int .u8 0, .int .u8 0, .int .u8 0, .int .u8 0, .int .u8 0, .int .u8 0, .int .u8 0, .int .u8 0, .int .u8 0, .int .u8 0, .int .u8 0] 5)).setCell ⟨w.heap.size, 0, none⟩ (.int .i64 0)).setCell ⟨w.heap.size, 1, none⟩ (.int .i64 0)).setCell ⟨w.heap.size, 2, none⟩ (.string ⟨#[]⟩)).drew = .ok (.string z) ((((W1.alloc (.cells #[.int .u8 0, .int .u8 0, .int .u8 0, .int .u8 0, .int .u8 0, .int .u8 0, .int .u8 0, .int .u8 0, .int .u8 0, .int .u8 0, .int .u8 0, .int .u8 0, .int .u8 0, .int .u8 0, .int .u8 0, .int .u8 0] 5)).setCell ⟨w.heap.size, 0, none⟩ (.int .i64 0)).setCell ⟨w.heap.size, 1, none⟩ (.int .i64 0)).setCell ⟨w.heap.size, 2, none⟩ (.string ⟨#[]⟩)).drew := by
      rw [hz]
      exact conv16 (((((Blk.new W1 5 (List.replicate 16 (.int .u8 0))).set_ne (by omega) 0 _).set_ne (by omega) 1 _).set_ne (by omega) 2 _).drew)
    have HFZ : Hid (x = Ino.free ↔ s = z) := Lib.hid (by rw [hz]; exact HFB.out)
    have hcmp := bytes_beq s z
    have hfin : ∀ W' : World, Fr Nob w W' → NodePost m X x w (.returned (.tuple #[.agg zeroN.toArray, .slice none 0 0, .bool (decide (s = z))])) W' := fun W' hf => by
      refine ⟨hf, ?_⟩
      by_cases e : s = z
      · have ex := HFZ.out.2 e
        rw [decide_eq_true e, ex]
        exact .inl ⟨free_inop, _, rfl, World.ownsRow_nil _ _ _ _, fun k hk => (by cases hk)⟩
      · rw [decide_eq_false e]
        exact .inr ⟨fun h => e (HFZ.out.1 (h.free HKZ.out)), rfl⟩
    have FIN := Lib.hid hfin
    clear hfin hk256 hl256 hz65 hkz hk0 wk wl hz hlt1
    go_enter Tryz.func49, Tryz.ntmps49
    have z0 := HB1.out.cell (j := 0) rfl
    have z1 := HB1.out.cell (j := 1) rfl
    have z2 := HB1.out.cell (j := 2) rfl
    have f0 := HB1.out.free 0
    have f1 := HB1.out.free 1
    have f2 := HB1.out.free 2
    have y0 := (HB1.out.alloc (.cells #[.int .u8 0, .int .u8 0, .int .u8 0, .int .u8 0, .int .u8 0, .int .u8 0, .int .u8 0, .int .u8 0, .int .u8 0, .int .u8 0, .int .u8 0, .int .u8 0, .int .u8 0, .int .u8 0, .int .u8 0, .int .u8 0] 5)).cell (j := 0) rfl
    have y1 := (HB1.out.alloc (.cells #[.int .u8 0, .int .u8 0, .int .u8 0, .int .u8 0, .int .u8 0, .int .u8 0, .int .u8 0, .int .u8 0, .int .u8 0, .int .u8 0, .int .u8 0, .int .u8 0, .int .u8 0, .int .u8 0, .int .u8 0, .int .u8 0] 5)).cell (j := 1) rfl
    have y2 := (HB1.out.alloc (.cells #[.int .u8 0, .int .u8 0, .int .u8 0, .int .u8 0, .int .u8 0, .int .u8 0, .int .u8 0, .int .u8 0, .int .u8 0, .int .u8 0, .int .u8 0, .int .u8 0, .int .u8 0, .int .u8 0, .int .u8 0, .int .u8 0] 5)).cell (j := 2) rfl
    have g0 := (HB1.out.alloc (.cells #[.int .u8 0, .int .u8 0, .int .u8 0, .int .u8 0, .int .u8 0, .int .u8 0, .int .u8 0, .int .u8 0, .int .u8 0, .int .u8 0, .int .u8 0, .int .u8 0, .int .u8 0, .int .u8 0, .int .u8 0, .int .u8 0] 5)).free 0
    have g1 := (HB1.out.alloc (.cells #[.int .u8 0, .int .u8 0, .int .u8 0, .int .u8 0, .int .u8 0, .int .u8 0, .int .u8 0, .int .u8 0, .int .u8 0, .int .u8 0, .int .u8 0, .int .u8 0, .int .u8 0, .int .u8 0, .int .u8 0, .int .u8 0] 5)).free 1
    have g2 := (HB1.out.alloc (.cells #[.int .u8 0, .int .u8 0, .int .u8 0, .int .u8 0, .int .u8 0, .int .u8 0, .int .u8 0, .int .u8 0, .int .u8 0, .int .u8 0, .int .u8 0, .int .u8 0, .int .u8 0, .int .u8 0, .int .u8 0, .int .u8 0] 5)).free 2
    go_wp2_with fail
    rw [show (w.alloc (.cells #[.int .i64 0, .int .i64 0, .string ⟨#[]⟩] tRNode)) = W1 from hW1.symm]
    clear hW1
    go_region
    all_goals
      go_wp2_with fail
      first
        | (refine bodyPost_ret (results_blk_tmp2 rfl rfl ((((HB1.out.set 0 _).set 1 _).set 2 _).alloc _).drew Tryz.underlying102 rfl Tryz.sizeNode) rfl ?_
           exact FIN.out _ ((HF1.out.trans' (set3_fr _ _ _ _ _) (fun i hi e => by omega)).alloc _).drew)
        | (refine bodyPost_ret (results_blk_tmp2 rfl rfl ((((HB1.out.alloc _).set 0 _).set 1 _).set 2 _).drew Tryz.underlying102 rfl Tryz.sizeNode) rfl ?_
           exact FIN.out _ ((HF1.out.alloc _).trans' (set3_fr _ _ _ _ _) (fun i hi e => by omega)).drew)
  have t0 : ((x.kind : Int) == 0) = false := by rw [beq_eq_false_iff_ne]; omega
  have HK0 := Lib.hid hk0
  clear hk0
  by_cases hk2 : 2 < x.kind
  · have HBAD : Hid (¬ InoP m X x) := Lib.hid fun h => by have := h.kind; omega
    have c2 : (2 : Int) < (x.kind : Int) := by omega
    clear hk2 hk256 hl256 hz65
    go_enter Tryz.func49, Tryz.ntmps49
    go_wp2_with fail
    refine (H2.out _).mono ?_
    rintro e w2 ⟨rfl, hf2⟩
    have HF2 := Lib.hid (HF1.out.trans hf2)
    have HB2 := Lib.hid (HB1.out.fr hf2 (fun h => h))
    clear hf2
    have z0 := HB2.out.cell (j := 0) rfl
    have z1 := HB2.out.cell (j := 1) rfl
    have z2 := HB2.out.cell (j := 2) rfl
    have f0 := HB2.out.free 0
    have f1 := HB2.out.free 1
    have f2 := HB2.out.free 2
    go_wp2_with fail
    refine bodyPost_ret (results_blk_tmp2 rfl rfl (((HB2.out.set 0 _).set 1 _).set 2 _) Tryz.underlying102 rfl Tryz.sizeNode) rfl ?_
    exact NodePost.bad HF2.out (set3_fr _ _ _ _ _) HBAD.out
  have c2 : ¬ (2 : Int) < (x.kind : Int) := by omega
  by_cases hz : 2368 < x.size
  · have HBAD : Hid (¬ InoP m X x) := Lib.hid fun h => by have := h.size; omega
    have c3 : (2368 : Int) < (x.size : Int) := by omega
    clear hk2 hk256 hl256 hz65 hz
    go_enter Tryz.func49, Tryz.ntmps49
    go_wp2_with fail
    refine (H2.out _).mono ?_
    rintro e w2 ⟨rfl, hf2⟩
    have HF2 := Lib.hid (HF1.out.trans hf2)
    have HB2 := Lib.hid (HB1.out.fr hf2 (fun h => h))
    clear hf2
    have z0 := HB2.out.cell (j := 0) rfl
    have z1 := HB2.out.cell (j := 1) rfl
    have z2 := HB2.out.cell (j := 2) rfl
    have f0 := HB2.out.free 0
    have f1 := HB2.out.free 1
    have f2 := HB2.out.free 2
    go_wp2_with fail
    refine bodyPost_ret (results_blk_tmp2 rfl rfl (((HB2.out.set 0 _).set 1 _).set 2 _) Tryz.underlying102 rfl Tryz.sizeNode) rfl ?_
    exact NodePost.bad HF2.out (set3_fr _ _ _ _ _) HBAD.out
  have c3 : ¬ (2368 : Int) < (x.size : Int) := by omega
  have HZ : Hid (x.size ≤ 2368) := Lib.hid (by omega)
  have HK2 : Hid (x.kind ≤ 2) := Lib.hid (by omega)
  have HS := Lib.hid (rsectors_calls x.size (by omega))
  have hn37 := sectors_le x.size HZ.out
  obtain ⟨n, hn⟩ : ∃ n, n = sectorsP x.size := ⟨_, rfl⟩
  rw [← hn] at hn37 HS
  have HN := Lib.hid hn
  have H37 := Lib.hid hn37
  clear hk2 hk256 hl256 hz65 hz hn hn37
  go_enter Tryz.func49, Tryz.ntmps49
  go_wp2_with fail
  refine (H2.out _).mono ?_
  rintro e w2 ⟨rfl, hf2⟩
  have HF2 := Lib.hid (HF1.out.trans hf2)
  have HB2 := Lib.hid (HB1.out.fr hf2 (fun h => h))
  clear hf2
  go_wp2_with fail
  refine (HS.out _).mono ?_
  rintro e w2' ⟨rfl, rfl⟩
  go_wp2_with fail
  go_loopw [9, 10] (fun o i wr => ∃ k : Nat, k ≤ 5 ∧ i = .int .i64 k ∧ ∃ ao c, o = .slice ao k c ∧ wr.ownsRow 0 tIntE 1 (.slice ao k c) k (nums (lstX X x k)) ∧ (∀ b, (Value.slice ao k c).ownBlock = some b → w.heap.size + 1 ≤ b) ∧ Blk wr w.heap.size tRNode zeroN ∧ Fr Nob w wr) (fun _ i _ => 5 - (intOf i).toNat)
  case atStart => exact ⟨0, Nat.zero_le _, rfl, none, 0, rfl, World.ownsRow_nil _ _ _ _, fun k hk => (by cases hk), HB2.out, HF2.out⟩
  case round =>
    clear HB2 HF2
    obtain ⟨k, hk, rfl, ao, c, rfl, hown, hnew, hblk, hf⟩ := hrel
    have HO := Lib.hid hown
    have HW := Lib.hid hnew
    have HB := Lib.hid hblk
    have HF := Lib.hid hf
    clear hown hnew hblk hf
    by_cases hlt : k < 5
    · have w1 : IntKind.i64.wrap (2 * (k : Int)) = 2 * (k : Int) := by rw [IntKind.wrap_i64]; omega
      have w3 : IntKind.i64.wrap (4 + 2 * (k : Int)) = 4 + 2 * (k : Int) := by rw [IntKind.wrap_i64]; omega
      have HT := Lib.hid (HK.out k hlt)
      go_wp2_with fail
      refine (HT.out _).mono ?_
      rintro e w3 ⟨rfl, hf3⟩
      have HO4 := Lib.hid (row_alloc (row_fr HO.out hf3 (fun _ _ h => h)) (.cells #[.int .i64 (xat X x k : Nat)] tIntE))
      have HB4 := Lib.hid ((HB.out.fr hf3 (fun h => h)).alloc (.cells #[.int .i64 (xat X x k : Nat)] tIntE))
      have HF4 := Lib.hid ((HF.out.trans hf3).alloc (.cells #[.int .i64 (xat X x k : Nat)] tIntE))
      have HSZ := Lib.hid (HF.out.trans hf3).size
      clear HO HB HF hf3
      go_wp2_with (at_builtin; refine wpList_append_mine rfl (ho := rfl) (s := .tmp 40) (x := .tmp 46) Tryz.rowInt rfl HO4.out rfl (srcs_one w3 _ _ 1 rfl) (by omega) ?_; intro v' w4 hown4 hf4 hv4 _; obtain ⟨g', cap', rfl⟩ := row_succ hown4)
      go_roundw
      case rel =>
        refine ⟨k + 1, hlt, by go_num, _, _, rfl, ?_, ?_, HB4.out.fr hf4 (fun e => by have := HW.out _ e; omega), ?_⟩
        · rw [lst_succ]; simpa [nums] using hown4
        · exact fun b hb => by
            rcases hv4 b hb with h | h
            · exact HW.out b h
            · have := HF4.out.size; simp at h this; have := HSZ.out; omega
        · exact HF4.out.trans' hf4 (fun i hi e => by have := HW.out i e; omega)
      case measure => simp [intOf]; omega
    · obtain rfl : k = 5 := by omega
      go_wp2_with fail
      refine (H14.out _).mono ?_
      rintro e w3 ⟨rfl, hf3⟩
      have HO3 := Lib.hid (row_fr HO.out hf3 (fun _ _ h => h))
      have HB3 := Lib.hid (HB.out.fr hf3 (fun h => h))
      have HF3 := Lib.hid (HF.out.trans hf3)
      clear HO HB HF hf3
      by_cases hn5 : 5 < n
      · have c5 : (5 : Int) < (n : Int) := by omega
        have c5' : ¬ (n : Int) ≤ 5 := by omega
        have hns : 5 < sectorsP x.size := by rw [← HN.out]; exact hn5
        by_cases ha9 : x.a5 < 9
        · have HBAD : Hid (¬ InoP m X x) := Lib.hid fun h => by have := h.a5 hns; omega
          have ca : (x.a5 : Int) < 9 := by omega
          have z0 := HB3.out.cell (j := 0) rfl
          have z1 := HB3.out.cell (j := 1) rfl
          have z2 := HB3.out.cell (j := 2) rfl
          have f0 := HB3.out.free 0
          have f1 := HB3.out.free 1
          have f2 := HB3.out.free 2
          go_wp2_with fail
          refine bodyPost_ret (results_blk_tmp2 rfl rfl (((HB3.out.set 0 _).set 1 _).set 2 _) Tryz.underlying102 rfl Tryz.sizeNode) rfl ?_
          exact NodePost.bad HF3.out (set3_fr _ _ _ _ _) HBAD.out
        have ca : ¬ (x.a5 : Int) < 9 := by omega
        by_cases ham : m ≤ x.a5
        · have HBAD : Hid (¬ InoP m X x) := Lib.hid fun h => by have := h.a5 hns; omega
          have cm : (m : Int) ≤ (x.a5 : Int) := by omega
          have z0 := HB3.out.cell (j := 0) rfl
          have z1 := HB3.out.cell (j := 1) rfl
          have z2 := HB3.out.cell (j := 2) rfl
          have f0 := HB3.out.free 0
          have f1 := HB3.out.free 1
          have f2 := HB3.out.free 2
          go_wp2_with fail
          refine bodyPost_ret (results_blk_tmp2 rfl rfl (((HB3.out.set 0 _).set 1 _).set 2 _) Tryz.underlying102 rfl Tryz.sizeNode) rfl ?_
          exact NodePost.bad HF3.out (set3_fr _ _ _ _ _) HBAD.out
        have cm : ¬ (m : Int) ≤ (x.a5 : Int) := by omega
        have cm2 : (x.a5 : Int) < (m : Int) := by omega
        have HA5 : Hid (9 ≤ x.a5 ∧ x.a5 < m) := Lib.hid (by omega)
        have H5 := Lib.hid hns
        have cell0 := HF3.out.cell (HC.out x.a5 (by omega)) (fun h => h)
        have HT2 : Hid (∀ (k : Nat), k < 32 → ∀ W : World, Calls Tryz.prog 90 #[.string (X x.a5), .int .i64 (2 * (k : Int))] W fun e w' => e = .returned (.int .i64 (xat X x (5 + k) : Nat)) ∧ Fr Nob W w') := Lib.hid fun k hk W => by
          have : xat X x (5 + k) = twoAt (X x.a5) (2 * k) := by unfold xat; rw [if_neg (by omega), show 5 + k - 5 = k by omega]
          rw [this]
          have := rtwo_calls (s := X x.a5) (i := 2 * k) (by rw [HX.out _ HA5.out.2]; omega) (by omega) W
          rwa [show (((2 * k : Nat)) : Int) = 2 * (k : Int) by omega] at this
        clear hns ha9 ham cell0 hn5
        go_wp2_with fail
        go_loopw [9, 12] (fun o i wr => ∃ k : Nat, k ≤ 32 ∧ i = .int .i64 k ∧ ∃ ao c, o = .slice ao (5 + k) c ∧ wr.ownsRow 0 tIntE 1 (.slice ao (5 + k) c) (5 + k) (nums (lstX X x (5 + k))) ∧ (∀ b, (Value.slice ao (5 + k) c).ownBlock = some b → w.heap.size + 1 ≤ b) ∧ Blk wr w.heap.size tRNode zeroN ∧ Fr Nob w wr) (fun _ i _ => 32 - (intOf i).toNat)
        case atStart => exact ⟨0, Nat.zero_le _, rfl, ao, c, rfl, HO3.out, HW.out, HB3.out, HF3.out⟩
        case round =>
          clear HO3 HB3 HF3 HW
          obtain ⟨k, hk, rfl, ao, c, rfl, hown, hnew, hblk, hf⟩ := hrel
          have HO := Lib.hid hown
          have HW := Lib.hid hnew
          have HB := Lib.hid hblk
          have HF := Lib.hid hf
          have cell0 := hf.cell (HC.out x.a5 HA5.out.2) (fun h => h)
          clear hown hnew hblk hf
          by_cases hlt : k < 32
          · have w1 : IntKind.i64.wrap (2 * (k : Int)) = 2 * (k : Int) := by rw [IntKind.wrap_i64]; omega
            have HT := Lib.hid (HT2.out k hlt)
            go_wp2_with fail
            refine (HT.out _).mono ?_
            rintro e w3 ⟨rfl, hf3⟩
            have HO4 := Lib.hid (row_alloc (row_fr HO.out hf3 (fun _ _ h => h)) (.cells #[.int .i64 (xat X x (5 + k) : Nat)] tIntE))
            have HB4 := Lib.hid ((HB.out.fr hf3 (fun h => h)).alloc (.cells #[.int .i64 (xat X x (5 + k) : Nat)] tIntE))
            have HF4 := Lib.hid ((HF.out.trans hf3).alloc (.cells #[.int .i64 (xat X x (5 + k) : Nat)] tIntE))
            have HSZ := Lib.hid (HF.out.trans hf3).size
            clear HO HB HF hf3
            go_wp2_with (at_builtin; refine wpList_append_mine rfl (ho := rfl) (s := .tmp 79) (x := .tmp 87) Tryz.rowInt rfl HO4.out rfl (srcs_one w3 _ _ 1 rfl) (by omega) ?_; intro v' w4 hown4 hf4 hv4 _; obtain ⟨g', cap', rfl⟩ := row_succ hown4)
            go_roundw
            case rel =>
              refine ⟨k + 1, hlt, by go_num, _, _, rfl, ?_, ?_, HB4.out.fr hf4 (fun e => by have := HW.out _ e; omega), ?_⟩
              · rw [show 5 + (k + 1) = 5 + k + 1 by omega, lst_succ]; simpa [nums] using hown4
              · exact fun b hb => by
                  rcases hv4 b hb with h | h
                  · exact HW.out b h
                  · have := HF4.out.size; simp at h this; have := HSZ.out; omega
              · exact HF4.out.trans' hf4 (fun i hi e => by have := HW.out i e; omega)
            case measure => simp [intOf]; omega
          · obtain rfl : k = 32 := by omega
            clear cell0
            have hcap := row_cap' HO.out
            go_wp2_with fail
            obtain ⟨g, c', hgc⟩ : ∃ g cap, Value.slice ao 37 c = .slice (some ⟨g, 0, none⟩) 37 cap := (row_form HO.out).elim (fun h => by have := h.2; omega) id
            simp only [Value.slice.injEq, true_and] at hgc
            obtain ⟨rfl, rfl⟩ := hgc
            obtain ⟨wl3, hwl3⟩ : ∃ w3, w3 = wr := ⟨_, rfl⟩
            rw [← hwl3]
            rw [← hwl3] at HO HB HF
            clear hwl3
            go_loopw [13, 14] (fun d i wq => ∃ (k : Nat) (D : ByteArray), k ≤ 37 ∧ i = .int .i64 k ∧ d = .string D ∧ Hid (D = ⟨(bytesTo X x (min k n)).toArray⟩) ∧ Hid (∀ j, j < k → j < n → 9 ≤ xat X x j ∧ xat X x j < m) ∧ Hid (∀ j, j < k → n ≤ j → xat X x j = 0) ∧ wq = wl3) (fun _ i _ => 37 - (intOf i).toNat)
            case atStart => exact ⟨0, ⟨#[]⟩, Nat.zero_le _, rfl, rfl, Lib.hid (by rw [Nat.zero_min]; rfl), Lib.hid fun j hj => by omega, Lib.hid fun j hj => by omega, rfl⟩
            case round =>
              obtain ⟨k, D, hk, rfl, rfl, HD, HIN, HZZ, hwq⟩ := hrel
              rw [hwq]
              clear hwq
              by_cases hlt : k < 37
              · have hcx := HO.out.cells (g := g) rfl k (.int .i64 (xat X x k : Nat)) (lst_get X x hlt)
                simp only [Addr.add_lit, Nat.zero_add] at hcx
                by_cases hkn : k < n
                · have hc1 : ¬ (n : Int) ≤ (k : Int) := by omega
                  by_cases h9 : xat X x k < 9
                  · have HBAD : Hid (¬ InoP m X x) := Lib.hid fun h => by have := h.inn k (by rw [← HN.out]; exact hkn); omega
                    have hc2 : (xat X x k : Int) < 9 := by omega
                    have z0 := HB.out.cell (j := 0) rfl
                    have z1 := HB.out.cell (j := 1) rfl
                    have z2 := HB.out.cell (j := 2) rfl
                    have f0 := HB.out.free 0
                    have f1 := HB.out.free 1
                    have f2 := HB.out.free 2
                    go_wp2_with fail
                    refine bodyPost_ret (results_blk_tmp2 rfl rfl (((HB.out.set 0 _).set 1 _).set 2 _) Tryz.underlying102 rfl Tryz.sizeNode) rfl ?_
                    exact NodePost.bad HF.out (set3_fr _ _ _ _ _) HBAD.out
                  have hc2 : ¬ (xat X x k : Int) < 9 := by omega
                  by_cases hmm : m ≤ xat X x k
                  · have HBAD : Hid (¬ InoP m X x) := Lib.hid fun h => by have := h.inn k (by rw [← HN.out]; exact hkn); omega
                    have hc3 : (m : Int) ≤ (xat X x k : Int) := by omega
                    have z0 := HB.out.cell (j := 0) rfl
                    have z1 := HB.out.cell (j := 1) rfl
                    have z2 := HB.out.cell (j := 2) rfl
                    have f0 := HB.out.free 0
                    have f1 := HB.out.free 1
                    have f2 := HB.out.free 2
                    go_wp2_with fail
                    refine bodyPost_ret (results_blk_tmp2 rfl rfl (((HB.out.set 0 _).set 1 _).set 2 _) Tryz.underlying102 rfl Tryz.sizeNode) rfl ?_
                    exact NodePost.bad HF.out (set3_fr _ _ _ _ _) HBAD.out
                  have hc3 : ¬ (m : Int) ≤ (xat X x k : Int) := by omega
                  have hc4 : (xat X x k : Int) < (m : Int) := by omega
                  have hcd := HF.out.cell (HC.out (xat X x k) (by omega)) (fun h => h)
                  have HNX : Hid ((∀ j, j < k + 1 → j < n → 9 ≤ xat X x j ∧ xat X x j < m)) := Lib.hid fun j hj hjn => by
                    by_cases e : j = k
                    · subst e; omega
                    · exact HIN.out j (by omega) hjn
                  have HNZ : Hid (∀ j, j < k + 1 → n ≤ j → xat X x j = 0) := Lib.hid fun j hj hjn => HZZ.out j (by omega) hjn
                  have HBT : Hid (D ++ X (xat X x k) = ⟨(bytesTo X x (min (k + 1) n)).toArray⟩) := Lib.hid (by
                    rw [HD.out, show min k n = k by omega, show min (k + 1) n = k + 1 by omega, bytesTo_succ]
                    exact bytes_of (by rw [toList_append]))
                  have hcz : D.size + (X (xat X x k)).size ≤ 9223372036854775807 := by
                    have h64 := HX.out (xat X x k) (by omega)
                    have hl : (bytesTo X x k).length = 64 * k := bytesTo_len (n := k) HX.out (fun j hj => (HIN.out j hj (by omega)).2) k (Nat.le_refl _)
                    have hd : D.size = (bytesTo X x k).length := by rw [HD.out, show min k n = k by omega]; exact List.size_toArray ..
                    have := H37.out
                    omega
                  clear h9 hmm HD
                  go_wp2_with fail
                  go_roundw
                  case rel => exact ⟨k + 1, _, hlt, by go_num, rfl, HBT, HNX, HNZ, by first | trivial | rfl⟩
                  case measure => simp [intOf]; omega
                · have hc1 : (n : Int) ≤ (k : Int) := by omega
                  by_cases h0 : xat X x k = 0
                  · have hc2 : ((xat X x k : Int) != 0) = false := by rw [h0]; rfl
                    have HNX : Hid ((∀ j, j < k + 1 → j < n → 9 ≤ xat X x j ∧ xat X x j < m)) := Lib.hid fun j hj hjn => HIN.out j (by omega) hjn
                    have HNZ : Hid (∀ j, j < k + 1 → n ≤ j → xat X x j = 0) := Lib.hid fun j hj hjn => by
                      by_cases e : j = k
                      · subst e; exact h0
                      · exact HZZ.out j (by omega) hjn
                    have HBT : Hid (D = ⟨(bytesTo X x (min (k + 1) n)).toArray⟩) := Lib.hid (by rw [HD.out, show min k n = min (k + 1) n by omega])
                    clear h0
                    go_wp2_with fail
                    go_roundw
                    case rel => exact ⟨k + 1, _, hlt, by go_num, rfl, HBT, HNX, HNZ, by first | trivial | rfl⟩
                    case measure => simp [intOf]; omega
                  · have HBAD : Hid (¬ InoP m X x) := Lib.hid fun h => h0 (h.zero k (by omega) (by rw [← HN.out]; omega) (.inr H5.out))
                    have hc2 : ((xat X x k : Int) != 0) = true := by rw [bne_iff_ne]; omega
                    have z0 := HB.out.cell (j := 0) rfl
                    have z1 := HB.out.cell (j := 1) rfl
                    have z2 := HB.out.cell (j := 2) rfl
                    have f0 := HB.out.free 0
                    have f1 := HB.out.free 1
                    have f2 := HB.out.free 2
                    go_wp2_with fail
                    refine bodyPost_ret (results_blk_tmp2 rfl rfl (((HB.out.set 0 _).set 1 _).set 2 _) Tryz.underlying102 rfl Tryz.sizeNode) rfl ?_
                    exact NodePost.bad HF.out (set3_fr _ _ _ _ _) HBAD.out
              · obtain rfl : k = 37 := by omega
                have HGOOD : Hid (InoP m X x) := Lib.hid ⟨fun h0 => absurd h0 HK0.out, HK2.out, HZ.out, fun h0 => absurd h0 (by have := H5.out; omega), fun _ => HA5.out, fun k hk => HIN.out k (by have := H37.out; have := HN.out; omega) (by rw [HN.out]; exact hk), fun k hk hge _ => HZZ.out k hk (by rw [HN.out]; exact hge)⟩
                have hmn : min 37 n = n := by have := H37.out; omega
                have hDe := HD.out
                rw [hmn] at hDe
                have hDL : (bytesTo X x n).length = 64 * n := bytesTo_len (n := n) HX.out (fun k hk => (HIN.out k (by have := H37.out; omega) hk).2) n (Nat.le_refl _)
                have hDD : (D.extract 0 x.size).data.toList = dataX X x := by
                  rw [hDe, toList_extract, List.drop_zero]
                  show (bytesTo X x n).take x.size = _
                  rw [HN.out]
                  exact bytesTo_data HX.out (fun k hk => (HGOOD.out.inn k hk).2)
                have hDS : x.size ≤ D.size := by
                  rw [hDe]
                  show x.size ≤ (bytesTo X x n).toArray.size
                  rw [List.size_toArray, hDL, HN.out]; unfold sectorsP; omega
                have HDD := Lib.hid hDD
                clear hDD hDL hmn hDe
                have HRT := Lib.hid (row_take HO.out (k := n) (by have := H37.out; omega))
                have hcn : n ≤ c := by have := H37.out; omega
                have hNX : (nums (lstX X x 37)).take n = nums (lstX X x n) := by
                  unfold nums lstX
                  rw [← List.map_take, ← List.map_take, List.take_range, Nat.min_eq_left (by have := H37.out; omega)]
                rw [hNX] at HRT
                have HR4 : Hid ((wl3.alloc (.cells #[.int .i64 (x.a5 : Nat)] tIntE)).ownsRow 0 tIntE 1 (.slice (some ⟨g, 0, none⟩) n c) n (nums (lstX X x n))) := Lib.hid (row_alloc HRT.out _)
                have HB4 := Lib.hid (HB.out.alloc (.cells #[.int .i64 (x.a5 : Nat)] tIntE))
                have HF4 := Lib.hid (HF.out.alloc (.cells #[.int .i64 (x.a5 : Nat)] tIntE))
                have HSZ := Lib.hid HF.out.size
                have HOW : Hid (lstX X x n ++ [x.a5] = ownL X x) := Lib.hid (by unfold ownL lastL lstX; rw [if_neg HK0.out, if_pos H5.out, HN.out])
                clear hNX
                go_wp2_with (at_builtin; refine wpList_append_mine rfl (ho := rfl) (s := .tmp 133) (x := .tmp 135) Tryz.rowInt rfl HR4.out rfl (srcs_one wl3 _ _ 1 rfl) (by have := H37.out; omega) ?_; intro v' w4 hown4 hf4 hv4 _; obtain ⟨g', cap', rfl⟩ := row_succ hown4; have HB5 := Lib.hid (HB4.out.fr hf4 (fun e => by have := HW.out _ e; omega)); have HO5 := Lib.hid hown4; have HV5 := Lib.hid hv4; have HFX := Lib.hid hf4; clear hown4 hf4 hv4; have z0 := HB5.out.cell (j := 0) rfl; have z1 := HB5.out.cell (j := 1) rfl; have z2 := HB5.out.cell (j := 2) rfl; have f0 := HB5.out.free 0; have f1 := HB5.out.free 1; have f2 := HB5.out.free 2)
                go_region
                go_wp2_with fail
                refine bodyPost_ret (results_blk_tmp2 rfl rfl (((HB5.out.set 0 _).set 1 _).set 2 _).drew Tryz.underlying102 rfl Tryz.sizeNode) rfl ?_
                refine NodePost.good (l := ownL X x) (w5 := w4) (HF4.out.trans' HFX.out (fun i hi e => by have := HW.out i e; omega)) (set3_fr _ _ _ _ _).drew HGOOD.out ?_ ?_ rfl HDD.out
                · rw [← HOW.out, List.length_append, lst_len]
                  have := HO5.out
                  simpa [nums] using this
                · intro b hb
                  rcases HV5.out b hb with h | h
                  · exact HW.out b h
                  · have := HSZ.out; simp at h; omega
      · have c5 : ¬ (5 : Int) < (n : Int) := by omega
        have c5' : (n : Int) ≤ 5 := by omega
        have hns : sectorsP x.size ≤ 5 := by rw [← HN.out]; omega
        by_cases haz : x.a5 = 0
        · have ca : ((x.a5 : Int) != 0) = false := by rw [haz]; rfl
          have HA5 := Lib.hid haz
          have H5 := Lib.hid hns
          clear haz hns hn5
          go_wp2_with fail
          go_loopw [9, 12] (fun o i wr => i = .int .i64 0 ∧ o = .slice ao 5 c ∧ wr.ownsRow 0 tIntE 1 (.slice ao 5 c) 5 (nums (lstX X x 5)) ∧ Blk wr w.heap.size tRNode zeroN ∧ Fr Nob w wr) (fun _ _ _ => 0)
          case atStart => exact ⟨rfl, rfl, HO3.out, HB3.out, HF3.out⟩
          case round =>
            clear HO3 HB3 HF3
            obtain ⟨rfl, rfl, hown, hblk, hf⟩ := hrel
            have HO := Lib.hid hown
            have HB := Lib.hid hblk
            have HF := Lib.hid hf
            clear hown hblk hf
            have hcap := row_cap' HO.out
            go_wp2_with fail
            obtain ⟨g, c', hgc⟩ : ∃ g cap, Value.slice ao 5 c = .slice (some ⟨g, 0, none⟩) 5 cap := (row_form HO.out).elim (fun h => by have := h.2; omega) id
            simp only [Value.slice.injEq, true_and] at hgc
            obtain ⟨rfl, rfl⟩ := hgc
            obtain ⟨wl3, hwl3⟩ : ∃ w3, w3 = wr := ⟨_, rfl⟩
            rw [← hwl3]
            rw [← hwl3] at HO HB HF
            clear hwl3
            go_loopw [13, 14] (fun d i wq => ∃ (k : Nat) (D : ByteArray), k ≤ 5 ∧ i = .int .i64 k ∧ d = .string D ∧ Hid (D = ⟨(bytesTo X x (min k n)).toArray⟩) ∧ Hid (∀ j, j < k → j < n → 9 ≤ xat X x j ∧ xat X x j < m) ∧ Hid (∀ j, j < k → n ≤ j → xat X x j = 0) ∧ wq = wl3) (fun _ i _ => 5 - (intOf i).toNat)
            case atStart => exact ⟨0, ⟨#[]⟩, Nat.zero_le _, rfl, rfl, Lib.hid (by rw [Nat.zero_min]; rfl), Lib.hid fun j hj => by omega, Lib.hid fun j hj => by omega, rfl⟩
            case round =>
              obtain ⟨k, D, hk, rfl, rfl, HD, HIN, HZZ, hwq⟩ := hrel
              rw [hwq]
              clear hwq
              by_cases hlt : k < 5
              · have hcx := HO.out.cells (g := g) rfl k (.int .i64 (xat X x k : Nat)) (lst_get X x hlt)
                simp only [Addr.add_lit, Nat.zero_add] at hcx
                by_cases hkn : k < n
                · have hc1 : ¬ (n : Int) ≤ (k : Int) := by omega
                  by_cases h9 : xat X x k < 9
                  · have HBAD : Hid (¬ InoP m X x) := Lib.hid fun h => by have := h.inn k (by rw [← HN.out]; exact hkn); omega
                    have hc2 : (xat X x k : Int) < 9 := by omega
                    have z0 := HB.out.cell (j := 0) rfl
                    have z1 := HB.out.cell (j := 1) rfl
                    have z2 := HB.out.cell (j := 2) rfl
                    have f0 := HB.out.free 0
                    have f1 := HB.out.free 1
                    have f2 := HB.out.free 2
                    go_wp2_with fail
                    refine bodyPost_ret (results_blk_tmp2 rfl rfl (((HB.out.set 0 _).set 1 _).set 2 _) Tryz.underlying102 rfl Tryz.sizeNode) rfl ?_
                    exact NodePost.bad HF.out (set3_fr _ _ _ _ _) HBAD.out
                  have hc2 : ¬ (xat X x k : Int) < 9 := by omega
                  by_cases hmm : m ≤ xat X x k
                  · have HBAD : Hid (¬ InoP m X x) := Lib.hid fun h => by have := h.inn k (by rw [← HN.out]; exact hkn); omega
                    have hc3 : (m : Int) ≤ (xat X x k : Int) := by omega
                    have z0 := HB.out.cell (j := 0) rfl
                    have z1 := HB.out.cell (j := 1) rfl
                    have z2 := HB.out.cell (j := 2) rfl
                    have f0 := HB.out.free 0
                    have f1 := HB.out.free 1
                    have f2 := HB.out.free 2
                    go_wp2_with fail
                    refine bodyPost_ret (results_blk_tmp2 rfl rfl (((HB.out.set 0 _).set 1 _).set 2 _) Tryz.underlying102 rfl Tryz.sizeNode) rfl ?_
                    exact NodePost.bad HF.out (set3_fr _ _ _ _ _) HBAD.out
                  have hc3 : ¬ (m : Int) ≤ (xat X x k : Int) := by omega
                  have hc4 : (xat X x k : Int) < (m : Int) := by omega
                  have hcd := HF.out.cell (HC.out (xat X x k) (by omega)) (fun h => h)
                  have HNX : Hid ((∀ j, j < k + 1 → j < n → 9 ≤ xat X x j ∧ xat X x j < m)) := Lib.hid fun j hj hjn => by
                    by_cases e : j = k
                    · subst e; omega
                    · exact HIN.out j (by omega) hjn
                  have HNZ : Hid (∀ j, j < k + 1 → n ≤ j → xat X x j = 0) := Lib.hid fun j hj hjn => HZZ.out j (by omega) hjn
                  have HBT : Hid (D ++ X (xat X x k) = ⟨(bytesTo X x (min (k + 1) n)).toArray⟩) := Lib.hid (by
                    rw [HD.out, show min k n = k by omega, show min (k + 1) n = k + 1 by omega, bytesTo_succ]
                    exact bytes_of (by rw [toList_append]))
                  have hcz : D.size + (X (xat X x k)).size ≤ 9223372036854775807 := by
                    have h64 := HX.out (xat X x k) (by omega)
                    have hl : (bytesTo X x k).length = 64 * k := bytesTo_len (n := k) HX.out (fun j hj => (HIN.out j hj (by omega)).2) k (Nat.le_refl _)
                    have hd : D.size = (bytesTo X x k).length := by rw [HD.out, show min k n = k by omega]; exact List.size_toArray ..
                    have := H37.out
                    omega
                  clear h9 hmm HD
                  go_wp2_with fail
                  go_roundw
                  case rel => exact ⟨k + 1, _, hlt, by go_num, rfl, HBT, HNX, HNZ, by first | trivial | rfl⟩
                  case measure => simp [intOf]; omega
                · have hc1 : (n : Int) ≤ (k : Int) := by omega
                  by_cases h0 : xat X x k = 0
                  · have hc2 : ((xat X x k : Int) != 0) = false := by rw [h0]; rfl
                    have HNX : Hid ((∀ j, j < k + 1 → j < n → 9 ≤ xat X x j ∧ xat X x j < m)) := Lib.hid fun j hj hjn => HIN.out j (by omega) hjn
                    have HNZ : Hid (∀ j, j < k + 1 → n ≤ j → xat X x j = 0) := Lib.hid fun j hj hjn => by
                      by_cases e : j = k
                      · subst e; exact h0
                      · exact HZZ.out j (by omega) hjn
                    have HBT : Hid (D = ⟨(bytesTo X x (min (k + 1) n)).toArray⟩) := Lib.hid (by rw [HD.out, show min k n = min (k + 1) n by omega])
                    clear h0
                    go_wp2_with fail
                    go_roundw
                    case rel => exact ⟨k + 1, _, hlt, by go_num, rfl, HBT, HNX, HNZ, by first | trivial | rfl⟩
                    case measure => simp [intOf]; omega
                  · have HBAD : Hid (¬ InoP m X x) := Lib.hid fun h => h0 (h.zero k (by omega) (by rw [← HN.out]; omega) (.inl (by omega)))
                    have hc2 : ((xat X x k : Int) != 0) = true := by rw [bne_iff_ne]; omega
                    have z0 := HB.out.cell (j := 0) rfl
                    have z1 := HB.out.cell (j := 1) rfl
                    have z2 := HB.out.cell (j := 2) rfl
                    have f0 := HB.out.free 0
                    have f1 := HB.out.free 1
                    have f2 := HB.out.free 2
                    go_wp2_with fail
                    refine bodyPost_ret (results_blk_tmp2 rfl rfl (((HB.out.set 0 _).set 1 _).set 2 _) Tryz.underlying102 rfl Tryz.sizeNode) rfl ?_
                    exact NodePost.bad HF.out (set3_fr _ _ _ _ _) HBAD.out
              · obtain rfl : k = 5 := by omega
                have HGOOD : Hid (InoP m X x) := Lib.hid ⟨fun h0 => absurd h0 HK0.out, HK2.out, HZ.out, fun _ => HA5.out, fun h0 => absurd h0 (by have := H5.out; omega), fun k hk => HIN.out k (by have := H5.out; omega) (by rw [HN.out]; exact hk), fun k hk hge hc => HZZ.out k (by rcases hc with h | h; exact h; have := H5.out; omega) (by rw [HN.out]; exact hge)⟩
                have hmn : min 5 n = n := by have := H37.out; omega
                have hDe := HD.out
                rw [hmn] at hDe
                have hDL : (bytesTo X x n).length = 64 * n := bytesTo_len (n := n) HX.out (fun k hk => (HIN.out k (by have := H37.out; omega) hk).2) n (Nat.le_refl _)
                have hDD : (D.extract 0 x.size).data.toList = dataX X x := by
                  rw [hDe, toList_extract, List.drop_zero]
                  show (bytesTo X x n).take x.size = _
                  rw [HN.out]
                  exact bytesTo_data HX.out (fun k hk => (HGOOD.out.inn k hk).2)
                have hDS : x.size ≤ D.size := by
                  rw [hDe]
                  show x.size ≤ (bytesTo X x n).toArray.size
                  rw [List.size_toArray, hDL, HN.out]; unfold sectorsP; omega
                have HDD := Lib.hid hDD
                clear hDD hDL hmn hDe
                have HRT := Lib.hid (row_take HO.out (k := n) (by have := H37.out; omega))
                have hcn : n ≤ c := by have := H37.out; omega
                have hNX : (nums (lstX X x 5)).take n = nums (lstX X x n) := by
                  unfold nums lstX
                  rw [← List.map_take, ← List.map_take, List.take_range, Nat.min_eq_left (by have := H5.out; have := HN.out; omega)]
                rw [hNX] at HRT
                have HOW : Hid (lstX X x n = ownL X x) := Lib.hid (by unfold ownL lastL lstX; rw [if_neg HK0.out, if_neg (by have := H5.out; omega), List.append_nil, HN.out])
                clear hNX
                have z0 := HB.out.cell (j := 0) rfl
                have z1 := HB.out.cell (j := 1) rfl
                have z2 := HB.out.cell (j := 2) rfl
                have f0 := HB.out.free 0
                have f1 := HB.out.free 1
                have f2 := HB.out.free 2
                go_wp2_with fail
                go_region
                go_wp2_with fail
                refine bodyPost_ret (results_blk_tmp2 rfl rfl (((HB.out.set 0 _).set 1 _).set 2 _).drew Tryz.underlying102 rfl Tryz.sizeNode) rfl ?_
                refine NodePost.good (l := ownL X x) HF.out (set3_fr _ _ _ _ _).drew HGOOD.out ?_ (fun b hb => HW.out b hb) rfl HDD.out
                rw [← HOW.out, lst_len]
                exact HRT.out
        · have HBAD : Hid (¬ InoP m X x) := Lib.hid fun h => haz (h.a5z hns)
          have ca : ((x.a5 : Int) != 0) = true := by rw [bne_iff_ne]; omega
          have z0 := HB3.out.cell (j := 0) rfl
          have z1 := HB3.out.cell (j := 1) rfl
          have z2 := HB3.out.cell (j := 2) rfl
          have f0 := HB3.out.free 0
          have f1 := HB3.out.free 1
          have f2 := HB3.out.free 2
          go_wp2_with fail
          refine bodyPost_ret (results_blk_tmp2 rfl rfl (((HB3.out.set 0 _).set 1 _).set 2 _) Tryz.underlying102 rfl Tryz.sizeNode) rfl ?_
          exact NodePost.bad HF3.out (set3_fr _ _ _ _ _) HBAD.out
end Go.Proofs.YtfldhmeenbdkiaaGreatDoor
