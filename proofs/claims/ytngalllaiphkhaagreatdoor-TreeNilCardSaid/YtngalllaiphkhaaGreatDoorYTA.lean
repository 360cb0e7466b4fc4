import Derived.Test.YtngalllaiphkhaaGreatDoorYPT
import Derived.Test.YtngalllaiphkhaaGreatDoorYRA
namespace Go.Proofs.YtngalllaiphkhaaGreatDoor
open Go.RowKit
set_option linter.unusedVariables false
set_option linter.unusedSimpArgs false
def stepE (T:Tr) (n:Nat) (p:ByteArray):Int :=
 if (T n).kind ≠ 2 then 11 else if p = dot1 then 0 else if p = dot2 then 0 else if namedT p = false then 8 else if (entryT (T n) p).isNone then 5 else 0
def stepN (T:Tr) (n:Nat) (p:ByteArray):Nat :=
 if (T n).kind ≠ 2 then n else if p = dot1 then n else if p = dot2 then (T n).up else if namedT p = false then n else match entryT (T n) p with | none=>n | some k=>inoT (T n) k
section
variable {T:Tr} {n:Nat}
theorem alongT_cons (T:Tr) (n:Nat) (p:ByteArray) (l:List ByteArray):alongT T n (p :: l) = if stepE T n p ≠ 0 then (0,stepE T n p) else alongT T (stepN T n p) l:=by
 rw [alongT]
 unfold stepE stepN
 by_cases h1:(T n).kind ≠ 2
 ·rw [if_pos h1,if_pos h1,if_pos (by omega)]
 ·rw [if_neg h1,if_neg h1,if_neg h1]
  by_cases h2:p = dot1
  ·rw [if_pos h2,if_pos h2,if_pos h2,if_neg (by omega)]
  ·rw [if_neg h2,if_neg h2,if_neg h2]
   by_cases h3:p = dot2
   ·rw [if_pos h3,if_pos h3,if_pos h3,if_neg (by omega)]
   ·rw [if_neg h3,if_neg h3,if_neg h3]
    by_cases h4:namedT p = false
    ·rw [if_pos h4,if_pos h4,if_pos h4,if_pos (by omega)]
    ·rw [if_neg h4,if_neg h4,if_neg h4]
     cases entryT (T n) p with
     | none=>simp
     | some k=>simp
theorem stepT_ok (h:TInv T) (hn:n < 32) {p:ByteArray} (hE:stepE T n p = 0) (hk:(T n).kind ≠ 0):stepN T n p < 32 /\ (T (stepN T n p)).kind ≠ 0:=by
 unfold stepE at hE
 unfold stepN
 by_cases h1:(T n).kind ≠ 2
 ·rw [if_pos h1] at hE;omega
 ·rw [if_neg h1] at hE ⊢
  have h1':(T n).kind = 2:=by omega
  by_cases h2:p = dot1
  ·rw [if_pos h2];exact ⟨hn,hk⟩
  ·rw [if_neg h2] at hE ⊢
   by_cases h3:p = dot2
   ·rw [if_pos h3]
    obtain ⟨a,b⟩:=h.up n hn h1'
    exact ⟨a,by omega⟩
   ·rw [if_neg h3] at hE ⊢
    by_cases h4:namedT p = false
    ·rw [if_pos h4];exact ⟨hn,hk⟩
    ·rw [if_neg h4] at hE ⊢
     cases he:entryT (T n) p with
     | none=>exact ⟨hn,hk⟩
     | some k =>
      obtain ⟨_,hs⟩:=entry_some he
      obtain ⟨a,b,_,_⟩:=h.slot n hn h1' k _ _ hs
      exact ⟨a,b⟩
theorem alongT_ok (h:TInv T):∀ (l:List ByteArray) {n:Nat},n < 32 -> (T n).kind ≠ 0 -> (alongT T n l).1 < 32 /\ ((alongT T n l).2 = 0 -> (T (alongT T n l).1).kind ≠ 0)
 | [],n,hn,hk=>⟨hn,fun _=>hk⟩
 | p :: l,n,hn,hk=>by
  rw [alongT_cons]
  split
  ·next hne=>exact ⟨by show 0 < 32;omega,fun e=>absurd e hne⟩
  ·next hE =>
   have hE:stepE T n p = 0:=Classical.not_not.1 hE
   obtain ⟨a,b⟩:=stepT_ok h hn hE hk
   exact alongT_ok h l a b
theorem isDir_iff {T:Tr} {n:Int}:isDirT T n = true ↔ 0 <= n /\ n < 32 /\ (T n.toNat).kind = 2:=by unfold isDirT;rw [decide_eq_true_eq]
theorem beginT_ok (h:TInv T) {from_:Int} {path:ByteArray} (hE:beginE T from_ path = 0):beginN from_ path < 32 /\ (T (beginN from_ path)).kind = 2:=by
 unfold beginE at hE
 unfold beginN
 split at hE
 ·omega
 ·split at hE
  ·next h1=>rw [if_pos h1];exact ⟨by omega,h.root⟩
  ·next h1 =>
   rw [if_neg h1]
   split at hE
   ·omega
   ·next h2 =>
    have h2:isDirT T from_ = true:=by simpa using h2
    obtain ⟨a,b,c⟩:=isDir_iff.1 h2
    exact ⟨by omega,c⟩
theorem findT_ok (h:TInv T) {from_:Int} {path:ByteArray} (hE:(findT T from_ path).2 = 0):(findT T from_ path).1 < 32 /\ (T (findT T from_ path).1).kind ≠ 0:=by
 unfold findT at hE ⊢
 split at hE
 ·next h1=>exact absurd hE h1
 ·next h1 =>
  rw [if_neg h1]
  obtain ⟨a,b⟩:=beginT_ok h (Classical.not_not.1 h1)
  obtain ⟨c,e⟩:=alongT_ok h (partsT path) a (by omega)
  exact ⟨c,e hE⟩
theorem lastT_ok (h:TInv T) {from_:Int} {path:ByteArray} (hE:(lastT T from_ path).2.2 = 0):(lastT T from_ path).1 < 32 /\ (T (lastT T from_ path).1).kind = 2 /\ namedT (lastT T from_ path).2.1 = true:=by
 unfold lastT at hE ⊢
 split at hE
 ·next h1=>exact absurd hE h1
 ·next h1 =>
  rw [if_neg h1]
  obtain ⟨a,b⟩:=beginT_ok h (Classical.not_not.1 h1)
  obtain ⟨c,e⟩:=alongT_ok h (partsT path).dropLast a (by omega)
  simp only at hE ⊢
  split at hE
  ·next h2=>exact absurd hE h2
  ·next h2 =>
   rw [if_neg h2]
   split at hE
   ·exact absurd hE (by decide)
   ·next h3 =>
    rw [if_neg h3]
    cases hg:(partsT path).getLast? with
    | none=>rw [hg] at hE;exact absurd (show (8:Int) = 0 from hE) (by decide)
    | some s =>
     rw [hg] at hE
     simp only at hE ⊢
     split at hE
     ·exact absurd hE (by decide)
     ·next h4 =>
      rw [if_neg h4]
      exact ⟨c,by simpa using h3,by simpa using h4⟩
end
abbrev tDTree:Nat:=138
abbrev tDNode:Nat:=141
abbrev tDSlot:Nat:=204
def slotV:SlotT -> List Value
 | none=>[.int .i64 (-1),.string ⟨#[]⟩]
 | some (i,s)=>[.int .i64 (i:Nat),.string s]
def slotsV (l:List SlotT):List Value:=l.flatMap slotV
def tnL (x:TN) (u:Value):List Value:=[.int .i64 x.kind,.int .i64 x.links,.string ⟨x.data.toArray⟩,u,.int .i64 x.up,.int .i64 x.held]
def tnsL (T:Tr) (us:Nat -> Value) (k:Nat):List Value:=(List.range k).flatMap fun i=>tnL (T i) (us i)
theorem tnsL_succ (T:Tr) (us:Nat -> Value) (k:Nat):tnsL T us (k + 1) = tnsL T us k ++ tnL (T k) (us k):=by unfold tnsL;rw [List.range_succ,List.flatMap_append];simp
theorem tnsL_length (T:Tr) (us:Nat -> Value):∀ k,(tnsL T us k).length = k * 6
 | 0=>rfl
 | k + 1=>by rw [tnsL_succ,List.length_append,tnsL_length T us k];simp [tnL];omega
theorem tnsL_get (T:Tr) (us:Nat -> Value) {i j:Nat} (hj:j < 6):∀ k,i < k -> (tnsL T us k)[i * 6 + j]? = (tnL (T i) (us i))[j]?
 | 0,h=>by omega
 | k + 1,h=>by
  rw [tnsL_succ]
  have hl:=tnsL_length T us k
  by_cases hi:i < k
  ·rw [List.getElem?_append_left (by omega)];exact tnsL_get T us hj k hi
  ·obtain rfl:i = k:=by omega
   rw [List.getElem?_append_right (by omega),hl,Nat.add_sub_cancel_left]
abbrev rowD (x:TN) (u:Value):Asr:=rowA tDSlot 2 u x.slots.length (slotsV x.slots)
def rowsD (T:Tr) (us:Nat -> Value):Nat -> Asr
 | 0=>Emp
 | k + 1=>Star (rowD (T k) (us k)) (rowsD T us k)
theorem loc_rows (T:Tr) (us:Nat -> Value):∀ k,Loc (rowsD T us k)
 | 0=>loc_emp
 | k + 1=>loc_star (loc_row _ _ _ _ _) (loc_rows T us k)
def docA (r g c:Nat) (sp:List Value) (m:Nat) (T:Tr) (us:Nat -> Value):Asr :=
 Star (blkA r tDTree [.int .i64 m,.slice (some ⟨g,0,none⟩) 32 c]) (Star (blkA g tDNode (tnsL T us 32 ++ sp)) (rowsD T us 32))
theorem loc_doc (r g c:Nat) (sp:List Value) (m:Nat) (T:Tr) (us:Nat -> Value):Loc (docA r g c sp m T us):=loc_star (loc_blk _ _ _) (loc_star (loc_blk _ _ _) (loc_rows _ _ _))
def docX (r m:Nat) (T:Tr):Asr:=fun w S=>∃ g c sp us,docA r g c sp m T us w S
theorem loc_docX (r m:Nat) (T:Tr):Loc (docX r m T):=fun w w' S U ⟨g,c,sp,us,h⟩ hf hS=>⟨g,c,sp,us,loc_doc _ _ _ _ _ _ _ w w' S U h hf hS⟩
theorem docX_shut {S0:Nat -> Prop} {w0 w:World} {r g c m:Nat} {sp:List Value} {T:Tr} {us:Nat -> Value} {B:Asr} (h:Lv S0 w0 (Star (docA r g c sp m T us) B) w):Lv S0 w0 (Star (docX r m T) B) w :=
 h.map fun _ h=>star_left h fun _ h=>⟨g,c,sp,us,h⟩
section
variable {S0:Nat -> Prop} {w0 w:World} {r g c m:Nat} {sp:List Value} {T:Tr} {us:Nat -> Value} {B R:Asr}
end
end Go.Proofs.YtngalllaiphkhaaGreatDoor
