import Derived.Test.YtngalllaiphkhaaGreatDoorYRB
import Derived.Lib.TrimByte
namespace Go.Proofs.YtngalllaiphkhaaGreatDoor
open Go.RowKit
set_option linter.unusedVariables false
set_option linter.unusedSimpArgs false
def boolL (U:Nat -> Bool) (n:Nat):List Value:=(List.range n).map fun i=>.bool (U i)
theorem boolL_len (U:Nat -> Bool) (n:Nat):(boolL U n).length = n:=by simp [boolL]
theorem boolL_get (U:Nat -> Bool) {n i:Nat} (h:i < n):(boolL U n)[i]? = some (.bool (U i)):=by simp [boolL,h]
theorem boolL_congr {U V:Nat -> Bool} {n:Nat} (h:∀ i,i < n -> U i = V i):boolL U n = boolL V n:=List.map_congr_left fun i hi=>by rw [h i (List.mem_range.1 hi)]
theorem boolL_set (U:Nat -> Bool) {n i:Nat} (h:i < n):(boolL U n).set i (.bool true) = boolL (marks U [i]) n:=by
 apply List.ext_getElem?
 intro p
 rw [List.getElem?_set]
 by_cases e:i = p
 ·subst e
  rw [if_pos rfl,if_pos (by rw [boolL_len];exact h),boolL_get _ h]
  simp [marks]
 ·rw [if_neg e]
  by_cases hp:p < n
  ·rw [boolL_get _ hp,boolL_get _ hp]
   have:p ≠ i:=fun h=>e h.symm
   simp [marks,this]
  ·rw [List.getElem?_eq_none (by rw [boolL_len];omega),List.getElem?_eq_none (by rw [boolL_len];omega)]
theorem boolL_rep (n:Nat):List.replicate n (Value.bool false) = boolL (fun _=>false) n:=by
 unfold boolL
 rw [List.map_const',List.length_range]
theorem marks_marks (U:Nat -> Bool) (l l':List Nat):marks (marks U l) l' = marks U (l ++ l'):=by
 funext i;unfold marks;simp [Bool.or_assoc]
theorem marks_nil (U:Nat -> Bool):marks U [] = U:=by funext i;simp [marks]
theorem marks_eq (U:Nat -> Bool) (l:List Nat) (i:Nat):marks U l i = (U i || decide (i ∈ l)):=rfl
theorem apart_nil (U:Nat -> Bool):Apart U []:=⟨List.nodup_nil,fun i h=>(by cases h)⟩
theorem apart_snoc {U:Nat -> Bool} {l:List Nat} {i:Nat}:Apart U (l ++ [i]) ↔ Apart U l /\ marks U l i = false:=by
 unfold Apart
 rw [List.nodup_append,marks_eq]
 constructor
 ·rintro ⟨⟨h1,_,h3⟩,h4⟩
  refine ⟨⟨h1,fun j hj=>h4 j (List.mem_append_left _ hj)⟩,?_⟩
  have h5:=h4 i (List.mem_append_right _ (List.mem_singleton.2 rfl))
  have h6:i ∉ l:=fun h=>h3 i h i (List.mem_singleton.2 rfl) rfl
  simp [h5,h6]
 ·rintro ⟨⟨h1,h2⟩,h3⟩
  simp only [Bool.or_eq_false_iff,decide_eq_false_iff_not] at h3
  refine ⟨⟨h1,List.nodup_cons.2 ⟨by simp,List.nodup_nil⟩,fun a ha b hb e=>?_⟩,fun j hj=>?_⟩
  ·obtain rfl:=List.mem_singleton.1 hb
   subst e;exact h3.2 ha
  ·rcases List.mem_append.1 hj with hj | hj
   ·exact h2 j hj
   ·obtain rfl:=List.mem_singleton.1 hj;exact h3.1
theorem apart_perm {U:Nat -> Bool} {l l':List Nat} (h:l.Perm l'):Apart U l ↔ Apart U l':=by
 unfold Apart
 rw [h.nodup_iff]
 exact and_congr Iff.rfl ⟨fun k i hi=>k i (h.mem_iff.2 hi),fun k i hi=>k i (h.mem_iff.1 hi)⟩
theorem apart_left {U:Nat -> Bool} {l l':List Nat} (h:Apart U (l ++ l')):Apart U l:=⟨(List.nodup_append.1 h.1).1,fun i hi=>h.2 i (List.mem_append_left _ hi)⟩
theorem marks_perm {U:Nat -> Bool} {l l':List Nat} (h:l.Perm l'):marks U l = marks U l':=by
 funext i
 rw [marks_eq,marks_eq]
 have:decide (i ∈ l) = decide (i ∈ l'):=by rw [decide_eq_decide];exact h.mem_iff
 rw [this]
def ownV (L:LSt) (x:Ino) (k:Nat):List Nat:=lastL x ++ (List.range k).map (vat L x)
theorem ownV_succ (L:LSt) (x:Ino) (k:Nat):ownV L x (k + 1) = ownV L x k ++ [vat L x k]:=by unfold ownV;rw [List.range_succ,List.map_append,List.append_assoc];rfl
structure OwnsP (m:Nat) (L:LSt) (U:Nat -> Bool) (x:Ino):Prop where
 kind:x.kind <= 2
 size:x.size <= 2368
 a5z:sectorsP x.size <= 5 -> x.a5 = 0
 inn:∀ i ∈ ownV L x (sectorsP x.size),9 <= i /\ i < m
 apart:Apart U (ownV L x (sectorsP x.size))
 zero:∀ k,sectorsP x.size <= k -> k < 5 -> x.get k = 0
 tail:5 < sectorsP x.size -> ∀ k,sectorsP x.size <= k -> k < 37 -> vat L x k = 0
def OwnsQ (m:Nat) (L:LSt) (U:Nat -> Bool) (x:Ino):Prop:=if x.kind = 0 then x = Ino.free else OwnsP m L U x
def ownB (m:Nat) (U:Nat -> Bool) (i:Nat):Bool:=decide (9 <= i) && decide (i < m) && !U i
theorem ownB_iff {m:Nat} {U:Nat -> Bool} {i:Nat}:ownB m U i = true ↔ (9 <= i /\ i < m) /\ U i = false:=by
 unfold ownB;simp [Bool.and_eq_true,and_assoc]
theorem drop_nil (p:UInt8 -> Bool):∀ l:List UInt8,l.dropWhile p = [] ↔ ∀ b ∈ l,p b = true
 | []=>by simp
 | a :: l=>by
  rw [List.dropWhile_cons]
  cases h:p a with
  | true =>
   rw [if_pos rfl,drop_nil p l]
   constructor
   ·intro k b hb
    rcases List.mem_cons.1 hb with rfl | hb
    ·exact h
    ·exact k b hb
   ·intro k b hb;exact k b (List.mem_cons_of_mem _ hb)
  | false =>
   rw [if_neg (by decide)]
   constructor
   ·intro k;cases k
   ·intro k;have:=k a (List.mem_cons_self ..);rw [h] at this;cases this
theorem trim_zero (l:List UInt8):Lib.trimB l 0 = [] ↔ ∀ b ∈ l,b = 0:=by
 unfold Lib.trimB Lib.trimLeftB Lib.trimRightB
 constructor
 ·intro h b hb
  rw [drop_nil] at h
  by_cases hn:(l.reverse.dropWhile (· == 0)) = []
  ·rw [drop_nil] at hn
   simpa using hn b (List.mem_reverse.2 hb)
  ·have h1:=List.head_dropWhile_not (· == (0:UInt8)) hn
   have h2:=h _ (List.mem_reverse.2 (List.head_mem hn))
   rw [h1] at h2;cases h2
 ·intro h
  have:l.reverse.dropWhile (· == 0) = []:=by
   rw [drop_nil]
   intro b hb
   simpa using h b (List.mem_reverse.1 hb)
  rw [this];rfl
theorem zero_twos {s:ByteArray} (hs:s.size = 64) {c:Nat}:(∀ b ∈ (s.extract (2 * c) 64).data.toList,b = 0) ↔ ∀ k,c <= k -> k < 32 -> twoAt s (2 * k) = 0:=by
 have hl:=bytes_len s
 have hb:(∀ b ∈ (s.extract (2 * c) 64).data.toList,b = 0) ↔ ∀ i,2 * c <= i -> i < 64 -> byteAt s i = 0:=by
  rw [toList_extract]
  constructor
  ·intro h i h1 h2
   have h3:s.data.toList[i]? = some (UInt8.ofNat (byteAt s i)):=byte_u8 s (by omega)
   have h4:=h (UInt8.ofNat (byteAt s i)) (List.mem_of_getElem? (i:=i - 2 * c) (by rw [List.getElem?_drop,List.getElem?_take,show 2 * c + (i - 2 * c) = i by omega,if_pos h2];exact h3))
   have h5:=congrArg UInt8.toNat h4
   rw [u8_byte _ (byteAt_lt _ _)] at h5
   exact h5
  ·intro h b hb
   obtain ⟨i,hi⟩:=List.getElem?_of_mem hb
   rw [List.getElem?_drop,List.getElem?_take] at hi
   split at hi
   ·rename_i h2
    rw [byte_u8 s (by omega),h _ (by omega) h2] at hi
    simpa using hi.symm
   ·cases hi
 rw [hb]
 unfold twoAt
 constructor
 ·intro h k h1 h2
  rw [h _ (by omega) (by omega),h _ (by omega) (by omega)]
 ·intro h i h1 h2
  have:=h (i / 2) (by omega) (by omega)
  rcases Nat.mod_two_eq_zero_or_one i with e | e
  ·have e2:2 * (i / 2) = i:=by omega
   rw [e2] at this;omega
  ·have e2:2 * (i / 2) + 1 = i:=by omega
   rw [e2] at this;omega
theorem ownV_perm (L:LSt) (x:Ino) (k:Nat):(ownV L x k).Perm ((List.range k).map (vat L x) ++ lastL x):=List.perm_append_comm
end Go.Proofs.YtngalllaiphkhaaGreatDoor
