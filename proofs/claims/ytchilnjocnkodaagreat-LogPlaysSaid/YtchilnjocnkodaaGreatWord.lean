/- Words as bytes, bytes as words. -/
import Derived.Test.YtchilnjocnkodaaGreatSame
import Derived.Lib.EndianBits
namespace Go.Proofs.YtchilnjocnkodaaGreat
open Go.RowKit

/-- Bytes, the lowest first, as a number. -/
def leNat : List UInt8 → Nat
  | [] => 0
  | b :: l => b.toNat + 256 * leNat l
theorem leNat_snoc (l : List UInt8) (b : UInt8) : leNat (l ++ [b]) = leNat l + b.toNat * 256 ^ l.length := by
  induction l with
  | nil => simp [leNat]
  | cons c l ih =>
    simp only [List.cons_append, leNat, ih, List.length_cons, Nat.pow_succ]
    rw [Nat.mul_add, Nat.add_assoc]
    congr 1
    congr 1
    rw [← Nat.mul_assoc, Nat.mul_comm 256, Nat.mul_assoc, Nat.mul_comm 256]
theorem leNat_lt (l : List UInt8) : leNat l < 256 ^ l.length := by
  induction l with
  | nil => simp [leNat]
  | cons c l ih =>
    have := c.toNat_lt
    simp only [leNat, List.length_cons, Nat.pow_succ]
    omega

theorem le_or {l : List UInt8} {j : Nat} (b : UInt8) (hl : l.length = j) (hj : j < 8) :
    bits BinOp.or IntKind.u64 (leNat l : Int) (IntKind.u64.wrap (IntKind.u64.wrap (b.toNat : Int) * 2 ^ (8 * j))) = (leNat (l ++ [b]) : Int) := by
  have hb := b.toNat_lt
  have h1 := leNat_lt l
  have hp : (256 : Nat) ^ j = 2 ^ (8 * j) := by rw [Nat.pow_mul]
  have hp2 : 2 ^ (8 * j) * 256 ≤ 18446744073709551616 := by
    have : 2 ^ (8 * j) * 256 = 2 ^ (8 * j + 8) := by rw [Nat.pow_add]
    rw [this]
    exact Nat.pow_le_pow_right (by decide) (show 8 * j + 8 ≤ 64 by omega)
  rw [leNat_snoc, hl, hp]
  rw [hl, hp] at h1
  generalize hP : 2 ^ (8 * j) = P at *
  have hP0 : 0 < P := by rw [← hP]; exact Nat.two_pow_pos _
  have hbP : b.toNat * P + P ≤ 18446744073709551616 := by
    have : b.toNat * P + P = (b.toNat + 1) * P := by rw [Nat.add_mul, Nat.one_mul]
    rw [this]
    have h3 := Nat.mul_le_mul_right P (show b.toNat + 1 ≤ 256 by omega)
    omega
  have e1 : IntKind.u64.wrap (b.toNat : Int) = (b.toNat : Int) := wraps_u64 _ (by omega) (by omega)
  have e2 : (b.toNat : Int) * (2 : Int) ^ (8 * j) = ((b.toNat * P : Nat) : Int) := by rw [← hP]; simp
  rw [e1, e2, wraps_u64 _ (by omega) (by omega)]
  rw [bits_join_low .u64 64 (by decide) wraps_u64 (8 * j) _ _ (by omega) (by rw [← hP] at h1; exact_mod_cast h1) (by omega) (by omega) ?_ (by omega)]
  · simp
  · have e3 : ((2 : Int) ^ (8 * j)) = ((P : Nat) : Int) := by rw [← hP]; simp
    rw [e3]
    exact_mod_cast Nat.mul_mod_left _ _

theorem bytes_len (s : ByteArray) : s.data.toList.length = s.size := Array.length_toList
theorem byte_at {s : ByteArray} {j : Nat} (h : j < s.size) : s.data.toList[j]? = some s[j] := by
  rw [Array.getElem?_toList]
  exact Array.getElem?_eq_getElem h

set_option maxRecDepth 100000 in
set_option maxHeartbeats 1000000 in
theorem wof_calls (s : ByteArray) (w : World) (hs : s.size ≤ 8) :
    Calls Tryz.prog 52 #[.string s] w fun e w' => e = .returned (.int .u64 (leNat s.data.toList)) ∧ Fr Nob w w' := by
  have hmin : min (s.size : Int) 8 = s.size := by omega
  go_enter Tryz.func52, Tryz.ntmps52
  go_wp2_with fail
  go_loop [3, 8] (fun v i => ∃ j : Nat, j ≤ s.size ∧ i = .int .i64 j ∧ v = .int .u64 (leNat (s.data.toList.take j))) (fun _ i => s.size - (intOf i).toNat)
  case atStart => exact ⟨0, Nat.zero_le _, rfl, rfl⟩
  case round =>
    obtain ⟨j, hj, rfl, rfl⟩ := hrel
    by_cases hlt : j < s.size
    · have hor := le_or (l := s.data.toList.take j) (j := j) s[j] (by rw [List.length_take, bytes_len]; omega) (by omega)
      have hsn : s.data.toList.take j ++ [s[j]] = s.data.toList.take (j + 1) := by rw [List.take_add_one, byte_at hlt]; rfl
      rw [hsn] at hor
      have HO := Lib.hid hor
      clear hor hsn
      go_wp2
      go_round
      case rel => exact ⟨j + 1, hlt, by go_num, by rw [HO.out]⟩
      case measure => simp [intOf]; omega
    · obtain rfl : j = s.size := by omega
      have htk : s.data.toList.take s.size = s.data.toList := List.take_of_length_le (by rw [bytes_len]; exact Nat.le_refl _)
      rw [htk]
      go_wp2
      go_ret
      exact ⟨rfl, Fr.refl _ _⟩

/-- A number's bytes, the lowest first. -/
def leBytes (v : Nat) : Nat → List UInt8
  | 0 => []
  | n + 1 => UInt8.ofNat (v % 256) :: leBytes (v / 256) n
theorem leBytes_length (v n : Nat) : (leBytes v n).length = n := by
  induction n generalizing v with
  | zero => rfl
  | succ n ih => simp [leBytes, ih]
theorem leBytes_snoc (v n : Nat) : leBytes v (n + 1) = leBytes v n ++ [UInt8.ofNat (v / 256 ^ n % 256)] := by
  induction n generalizing v with
  | zero => simp [leBytes]
  | succ n ih =>
    show UInt8.ofNat (v % 256) :: leBytes (v / 256) (n + 1) = _
    rw [ih]
    show _ = UInt8.ofNat (v % 256) :: (leBytes (v / 256) n ++ _)
    rw [Nat.div_div_eq_div_mul, Nat.pow_succ, Nat.mul_comm 256]
def byteV (b : UInt8) : Value := .int .u8 (b.toNat : Int)

theorem map_bytes (l : List UInt8) : l.map byteV = (l.map fun b => (b.toNat : Int)).map (Value.int .u8) := by rw [List.map_map]; rfl
theorem strOf_bytes (l : List UInt8) : strOf (l.map fun b => (b.toNat : Int)) = ⟨l.toArray⟩ := by
  have key : ∀ (l : List UInt8) (r : ByteArray), (l.map fun b => (b.toNat : Int)).foldl (fun r n => r.push (UInt8.ofNat n.toNat)) r = ⟨r.data ++ l.toArray⟩ := by
    intro l
    induction l with
    | nil => intro r; simp
    | cons b l ih =>
      intro r
      rw [List.map_cons, List.foldl_cons, ih]
      show (⟨(r.data.push _) ++ _⟩ : ByteArray) = _
      rw [Int.toNat_natCast, UInt8.ofNat_toNat]
      congr 1
      apply Array.ext'
      simp
  unfold strOf
  rw [key]
  show (⟨#[] ++ l.toArray⟩ : ByteArray) = _
  simp

theorem Tryz.rowU8 : RowT Tryz.prog 108 5 1 1 := by
  obtain ⟨i0, hi, hz0, hz1, hz2⟩ := info_parts Tryz.infoU8
  exact ⟨⟨i0, _, Tryz.underlying108, hi, hz0, hz1, hz2, rfl⟩, by decide, by decide⟩

set_option maxRecDepth 100000 in
set_option maxHeartbeats 1000000 in
theorem wbytes_calls (v : Nat) (n : Nat) (w : World) (h1 : 1 ≤ n) (hn : n ≤ 8) (hv : v < 18446744073709551616) :
    Calls Tryz.prog 74 #[.int .u64 v, .int .i64 n] w fun e w' => e = .returned (.string ⟨(leBytes v n).toArray⟩) ∧ Fr Nob w w' := by
  have HV := Lib.hid hv
  have hmax : max (n : Int) 0 = n := by omega
  have hmin : min (n : Int) 8 = n := by omega
  clear hv
  go_enter Tryz.func74, Tryz.ntmps74
  go_wp2_with fail
  go_loopw [0, 5, 9] (fun x b i wr => ∃ j : Nat, j ≤ n ∧ i = .int .i64 j ∧ x = .int .u64 ((v / 256 ^ j : Nat) : Int) ∧ ∃ ao c, b = .slice ao j c ∧ wr.ownsRow 0 5 1 (.slice ao j c) j ((leBytes v j).map byteV) ∧ (∀ k, (Value.slice ao j c).ownBlock = some k → w.heap.size ≤ k) ∧ Fr Nob w wr) (fun _ _ i _ => n - (intOf i).toNat)
  case atStart => exact ⟨0, Nat.zero_le _, rfl, by simp, none, 0, rfl, World.ownsRow_nil _ _ _ _, fun k hk => (by cases hk), Fr.refl _ _⟩
  case round =>
    obtain ⟨j, hj, rfl, rfl, ao, c, rfl, hown, hlt0, hf⟩ := hrel
    have HO := Lib.hid hown
    have HL := Lib.hid hlt0
    have HF := Lib.hid hf
    clear hown hlt0 hf
    by_cases hlt : j < n
    · go_wp2_with (at_builtin; refine wpList_append_mine rfl (ho := rfl) (s := .tmp 11) (x := .tmp 14) Tryz.rowU8 rfl (HO.out.alloc _) rfl (srcs_one wr _ _ 1 rfl) (by omega) ?_; intro v' w3 hown3 hf3 hv3 _; obtain ⟨g', cap', rfl⟩ := row_succ hown3)
      go_roundw
      case rel =>
        refine ⟨j + 1, by omega, by go_num, ?_, _, _, rfl, ?_, ?_, ?_⟩
        · rw [Nat.pow_succ, ← Nat.div_div_eq_div_mul]; simp
        · rw [leBytes_snoc, List.map_append, List.map_cons, List.map_nil]
          have e : byteV (UInt8.ofNat (v / 256 ^ j % 256)) = .int .u8 (((v / 256 ^ j : Nat) : Int) % 256) := by
            unfold byteV
            rw [UInt8.toNat_ofNat']
            congr 1
            omega
          rw [e]
          simpa using hown3
        · intro k hk
          rcases hv3 k hk with h | h
          · exact HL.out k h
          · have := HF.out.size
            simp at h
            omega
        · exact ((HF.out.alloc _).trans' hf3 (fun i hi e => by have := HL.out i e; omega))
      case measure => simp [intOf]; omega
    · obtain rfl : j = n := by omega
      obtain ⟨g, c', hgc⟩ : ∃ g cap, Value.slice ao j c = .slice (some ⟨g, 0, none⟩) j cap := (row_form HO.out).elim (fun h => by have := h.2; omega) id
      simp only [Value.slice.injEq, true_and] at hgc
      obtain ⟨rfl, rfl⟩ := hgc
      have hc := HO.out.cells (g := g) rfl
      rw [map_bytes] at hc
      have HC := Lib.hid hc
      have hlen : ((leBytes v j).map fun b => (b.toNat : Int)).length = j := by rw [List.length_map, leBytes_length]
      clear hc
      go_wp2_with (with_reducible show wpList _ _ _ _ _ _; refine wpList_bytes_string (x := .tmp 19) rfl rfl Tryz.underlying108 Tryz.underlying5 Tryz.underlying9 rfl hlen HC.out ?_; rw [strOf_bytes])
      go_ret
      exact ⟨rfl, HF.out⟩
end Go.Proofs.YtchilnjocnkodaaGreat
