import Derived.Test.YtngalllaiphkhaaGreatDoorYRA
namespace Go.Proofs.YtngalllaiphkhaaGreatDoor
open Go.RowKit
set_option linter.unusedVariables false
set_option linter.unusedSimpArgs false
def lastL (x:Ino):List Nat:=if 5 < sectorsP x.size then [x.a5] else []
def ownL (X:Sec) (x:Ino):List Nat:=if x.kind = 0 then [] else (List.range (sectorsP x.size)).map (xat X x) ++ lastL x
structure InoP (m:Nat) (X:Sec) (x:Ino):Prop where
 free:x.kind = 0 -> x = Ino.free
 kind:x.kind <= 2
 size:x.size <= 2368
 a5z:sectorsP x.size <= 5 -> x.a5 = 0
 a5:5 < sectorsP x.size -> 9 <= x.a5 /\ x.a5 < m
 inn:∀ k,k < sectorsP x.size -> 9 <= xat X x k /\ xat X x k < m
 zero:∀ k,k < 37 -> sectorsP x.size <= k -> k < 5 \/ 5 < sectorsP x.size -> xat X x k = 0
def marks (U:Nat -> Bool) (l:List Nat):Nat -> Bool:=fun i=>U i || decide (i ∈ l)
def Apart (U:Nat -> Bool) (l:List Nat):Prop:=l.Nodup /\ ∀ i ∈ l,U i = false
def usedTo (X:Sec):Nat -> Nat -> Bool
 | 0=>fun i=>decide (i < 9)
 | n + 1=>marks (usedTo X n) (ownL X (xinode X n))
def InoT (m:Nat) (X:Sec) (n:Nat):Prop:=InoP m X (xinode X n) /\ Apart (usedTo X n) (ownL X (xinode X n))
structure Whole (m:Nat) (X:Sec):Prop where
 each:∀ n,n < 32 -> InoT m X n
 map:∀ i,i < 512 -> usedP (X 0) i = usedTo X 32 i
theorem marks_at (U:Nat -> Bool) (l:List Nat) (i:Nat):marks U l i = true ↔ U i = true \/ i ∈ l:=by unfold marks;simp
theorem usedTo_iff (X:Sec) (i:Nat):∀ n,usedTo X n i = true ↔ i < 9 \/ ∃ j,j < n /\ i ∈ ownL X (xinode X j)
 | 0=>by simp [usedTo]
 | n + 1=>by
  unfold usedTo
  rw [marks_at,usedTo_iff X i n]
  constructor
  ·rintro ((h | ⟨j,hj,h⟩) | h)
   ·exact .inl h
   ·exact .inr ⟨j,by omega,h⟩
   ·exact .inr ⟨n,by omega,h⟩
  ·rintro (h | ⟨j,hj,h⟩)
   ·exact .inl (.inl h)
   ·by_cases e:j = n
    ·subst e;exact .inr h
    ·exact .inl (.inr ⟨j,by omega,h⟩)
section
variable {m:Nat} {X:Sec} {A:Nat -> Node} {x:Ino}
theorem own_in (h:InoP m X x) {i:Nat} (hi:i ∈ ownL X x):9 <= i /\ i < m:=by
 unfold ownL at hi
 split at hi
 ·cases hi
 ·rcases List.mem_append.1 hi with h1 | h1
  ·obtain ⟨k,hk,rfl⟩:=List.mem_map.1 h1
   exact h.inn k (List.mem_range.1 hk)
  ·unfold lastL at h1
   split at h1
   ·rename_i h5
    obtain rfl:=List.mem_singleton.1 h1
    exact h.a5 h5
   ·cases h1
end
section
variable {m:Nat} {X:Sec} {x:Ino}
end
section
variable {P:Program} {w:World} {b e:Nat} {cs:List Value}
end
theorem free_inop {m:Nat} {X:Sec}:InoP m X Ino.free :=
 ⟨fun _=>rfl,by decide,by decide,fun _=>rfl,fun h=>by simp [Ino.free,sectorsP] at h,fun k h=>by simp [Ino.free,sectorsP] at h,fun k hk _ h=>by
  rcases h with h | h
  ·unfold xat;rw [if_pos h]
   obtain rfl | rfl | rfl | rfl | rfl:k = 0 \/ k = 1 \/ k = 2 \/ k = 3 \/ k = 4:=by omega
   all_goals rfl
  ·simp [Ino.free,sectorsP] at h⟩
section
variable {S0:Nat -> Prop} {w0 w:World} {r nb c m:Nat} {sp:List Value} {A:Nat -> Node} {B R:Asr}
end
end Go.Proofs.YtngalllaiphkhaaGreatDoor
