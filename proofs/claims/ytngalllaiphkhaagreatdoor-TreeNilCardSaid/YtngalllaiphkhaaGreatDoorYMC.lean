import Derived.Test.YtngalllaiphkhaaGreatDoorRows
import Derived.Test.YtngalllaiphkhaaGreatDoorYMA
import Derived.Test.YtngalllaiphkhaaGreatDoorYMB
import Derived.WalkSpells
import Derived.RangeFuncNested
import Derived.RangeFuncBound
import Derived.RangeFuncCalls
import Derived.RangeFuncLeaves
import Derived.RangeFuncBox
import Derived.Shelf.Abstract
import Derived.Shelf.RegionOpen
import Derived.OwnWalkIn
import Derived.TacticsInMore
import Derived.LoopNIn
import Derived.LoopIn
namespace Go.Proofs.YtngalllaiphkhaaGreatDoor
open Go.RowKit
open Go.Lib (hid)
set_option maxRecDepth 100000
set_option maxHeartbeats 16000000
abbrev tStr:Nat:=9
def flatW (w:List (Nat × ByteArray)):List Value:=w.flatMap fun x=>[.int .i64 x.1,.string x.2]
def strs (l:List ByteArray):List Value:=l.map .string
structure Kd where
 th:Nat
 tw:Nat
 h1:th ≠ tStr
 h2:tw ≠ tStr
 h3:th ≠ tw
structure IsDskAt (K:Kd) (w:World) (b bs c:Nat) (sp:List Value) (wv:Value) (S:Nat -> Prop) (D:DSt):Prop where
 head:Blk w b K.th [.slice (some ⟨bs,0,none⟩) D.safe.length c,wv,.int .i64 D.power,.bool D.off]
 rows:Blk w bs tStr (strs D.safe ++ sp)
 wait:w.ownsRow 0 K.tw 2 wv D.wait.length (flatW D.wait)
 own:S b
 ownS:S bs
 ownW:∀ k,wv.ownBlock = some k -> S k
 ok:D.Ok
def IsDsk (K:Kd) (w:World) (b:Nat) (S:Nat -> Prop) (D:DSt):Prop:=∃ bs c sp wv,IsDskAt K w b bs c sp wv S D
theorem strs_get {l:List ByteArray} {sp:List Value} {i:Nat} {y:ByteArray} (h:l[i]? = some y):(strs l ++ sp)[i]? = some (.string y):=by
 have hi:i < l.length:=(List.getElem?_eq_some_iff.1 h).1
 rw [List.getElem?_append_left (by simpa [strs] using hi)]
 simp [strs,h]
section
variable {K:Kd} {w w' w1 w2:World} {b bs c:Nat} {sp:List Value} {wv v':Value} {S T:Nat -> Prop} {D:DSt}
theorem IsDskAt.apart (h:IsDskAt K w b bs c sp wv S D) {k:Nat} (hk:wv.ownBlock = some k):k < w.heap.size /\ k ≠ b /\ k ≠ bs:=by
 rcases h.wait.2 with ⟨hv,_⟩ | ⟨g,cap,cur,hv,_,hg,_⟩
 ·rw [hv] at hk;cases hk
 ·rw [hv] at hk;cases hk
  refine ⟨lt_of_block hg,?_,?_⟩
  ·intro e;have:=h.head;unfold Blk at this;simp only at e;rw [<- e,hg] at this;simp at this;exact absurd this.2.symm K.h3
  ·intro e;have:=h.rows;unfold Blk at this;simp only at e;rw [<- e,hg] at this;simp at this;exact absurd this.2 K.h2
theorem IsDskAt.sb (h:IsDskAt K w b bs c sp wv S D):bs ≠ b:=h.rows.ne h.head K.h1.symm
theorem IsDskAt.turn (h:IsDskAt K w b bs c sp wv S D) {p:Int} {o:Bool}
 (hb:Blk w' b K.th [.slice (some ⟨bs,0,none⟩) D.safe.length c,wv,.int .i64 p,.bool o]) (hf:Fr (· = b) w w')
 (lo:-1 <= p) (hi:p <= 9223372036854775807):IsDskAt K w' b bs c sp wv S { D with power:=p,off:=o } where
 head:=hb
 rows:=h.rows.fr hf h.sb
 wait:=row_fr h.wait hf fun _ hk e=>(h.apart hk).2.1 e
 own:=h.own
 ownS:=h.ownS
 ownW:=h.ownW
 ok:=⟨h.ok.len,h.ok.lo48,h.ok.at_,h.ok.size,h.ok.wsize,lo,hi⟩
theorem IsDskAt.mono (h:IsDskAt K w b bs c sp wv S D) (hT:∀ k,S k -> T k):IsDskAt K w b bs c sp wv T D :=
 ⟨h.head,h.rows,h.wait,hT _ h.own,hT _ h.ownS,fun k hk=>hT _ (h.ownW k hk),h.ok⟩
theorem IsDsk.mono (h:IsDsk K w b S D) (hT:∀ k,S k -> T k):IsDsk K w b T D:=by
 obtain ⟨bs,c,sp,wv,h⟩:=h;exact ⟨bs,c,sp,wv,h.mono hT⟩
theorem IsDskAt.fr (h:IsDskAt K w b bs c sp wv S D) (hf:Fr T w w') (hT:∀ k,S k -> ¬ T k):IsDskAt K w' b bs c sp wv S D :=
 ⟨h.head.fr hf (hT _ h.own),h.rows.fr hf (hT _ h.ownS),row_fr h.wait hf (fun k hk=>hT _ (h.ownW k hk)),h.own,h.ownS,h.ownW,h.ok⟩
theorem IsDsk.fr (h:IsDsk K w b S D) (hf:Fr T w w') (hT:∀ k,S k -> ¬ T k):IsDsk K w' b S D:=by
 obtain ⟨bs,c,sp,wv,h⟩:=h
 exact ⟨bs,c,sp,wv,h.fr hf hT⟩
theorem IsDskAt.alloc (h:IsDskAt K w b bs c sp wv S D) (o:Obj):IsDskAt K (w.alloc o) b bs c sp wv S D :=
 h.fr ((Fr.refl Nob w).alloc o) (fun _ _ h=>h)
theorem IsDskAt.drew (h:IsDskAt K w b bs c sp wv S D):IsDskAt K w.drew b bs c sp wv S D :=
 h.fr ((Fr.refl Nob w).drew) (fun _ _ h=>h)
theorem flatW_get {l:List (Nat × ByteArray)} {k:Nat} {x:Nat × ByteArray} (h:l[k]? = some x):(flatW l)[k * 2]? = some (.int .i64 x.1) /\ (flatW l)[k * 2 + 1]? = some (.string x.2):=by
 induction l generalizing k with
 | nil=>simp at h
 | cons y l ih =>
  cases k with
  | zero=>simp at h;subst h;simp [flatW]
  | succ k =>
   have:=ih (k:=k) (by simpa using h)
   simpa [flatW,Nat.add_mul,Nat.add_right_comm] using this
theorem flatW_append (l:List (Nat × ByteArray)) (i:Nat) (s:ByteArray):flatW (l ++ [(i,s)]) = flatW l ++ [.int .i64 i,.string s]:=by
 simp [flatW]
theorem IsDskAt.wrote (h:IsDskAt K w1 b bs c sp wv S D) (hf:Fr (fun k=>wv.ownBlock = some k) w1 w2) {i:Nat} {s:ByteArray}
 (hown:w2.ownsRow 0 K.tw 2 v' (D.wait.length + 1) (flatW D.wait ++ [.int .i64 i,.string s])) (hv:∀ k,v'.ownBlock = some k -> wv.ownBlock = some k \/ w1.heap.size <= k)
 (hi:i < D.safe.length) (hs:s.size = 64) :
 IsDsk K (w2.setCell ⟨b,1,none⟩ v') b (Plus S w1 (w2.setCell ⟨b,1,none⟩ v')) { D with wait:=D.wait ++ [(i,s)] } /\ Fr S w1 (w2.setCell ⟨b,1,none⟩ v'):=by
 have hb2:Blk w2 b K.th _:=h.head.fr hf (fun e=>(h.apart e).2.1 rfl)
 have hs2:Blk w2 bs tStr _:=h.rows.fr hf (fun e=>(h.apart e).2.2 rfl)
 have hne:bs ≠ b:=hs2.ne hb2 K.h1.symm
 have hvb:∀ k,v'.ownBlock = some k -> k ≠ b:=fun k hk e=>by
  rcases hown.2 with ⟨hv',_⟩ | ⟨g,cap,cur,hv',_,hg,_⟩
  ·rw [hv'] at hk;cases hk
  ·rw [hv'] at hk;cases hk
   have:=hb2;unfold Blk at this;simp only at e;rw [<- e,hg] at this;simp at this;exact absurd this.2.symm K.h3
 refine ⟨⟨bs,c,sp,v',hb2.set 1 v',hs2.set_ne hne 1 v',?_,.inl h.own,.inl h.ownS,?_,⟨h.ok.len,h.ok.lo48,?_,h.ok.size,?_,h.ok.lo,h.ok.hi⟩⟩,(hf.mono (fun k hk=>h.ownW k hk)).set (.inl h.own) 1 v'⟩
 ·have:=ownsRow_setCell_other hown (a:=⟨b,1,none⟩) (fun e=>hvb _ e rfl) v'
  rw [flatW_append]
  simpa using this
 ·intro k hk
  rcases hv k hk with h1 | h1
  ·exact .inl (h.ownW k h1)
  ·refine .inr ⟨h1,?_⟩
   have:=(hown.lt k hk).2
   simpa using this
 ·intro x hx
  simp only [List.mem_append,List.mem_singleton] at hx
  rcases hx with hx | rfl
  ·exact h.ok.at_ x hx
  ·exact hi
 ·intro x hx
  simp only [List.mem_append,List.mem_singleton] at hx
  rcases hx with hx | rfl
  ·exact h.ok.wsize x hx
  ·exact hs
theorem IsDskAt.put (h:IsDskAt K w b bs c sp wv S D) {i:Nat} {s:ByteArray} (hs:s.size = 64) (hi:i < D.safe.length) :
 IsDskAt K (w.setCell ⟨bs,i,none⟩ (.string s)) b bs c sp wv S { D with safe:=D.safe.set i s } where
 head:=by have:=h.head.set_ne h.sb.symm i (.string s);simpa using this
 rows:=by have:=h.rows.set i (.string s);rw [List.set_append_left _ _ (by simpa [strs] using hi)] at this;simpa [strs,List.map_set] using this
 wait:=by
  have:=ownsRow_setCell_other h.wait (a:=⟨bs,i,none⟩) (fun e=>(h.apart e).2.2 rfl) (.string s)
  exact this
 own:=h.own
 ownS:=h.ownS
 ownW:=h.ownW
 ok:=⟨by simpa using h.ok.len,by simpa using h.ok.lo48,by simpa using h.ok.at_,fun t ht=>by
  rcases List.mem_or_eq_of_mem_set ht with ht | ht
  ·exact h.ok.size t ht
  ·rw [ht];exact hs,h.ok.wsize,h.ok.lo,h.ok.hi⟩
theorem IsDskAt.cleared (h:IsDskAt K w b bs c sp wv S D) :
 IsDsk K (w.setCell ⟨b,1,none⟩ (.slice none 0 0)) b S { D with wait:=[] } :=
 ⟨bs,c,sp,.slice none 0 0,h.head.set 1 _,h.rows.set_ne h.sb 1 _,World.ownsRow_nil _ _ _ _,h.own,h.ownS,fun k hk=>(by cases hk),⟨h.ok.len,h.ok.lo48,by simp,h.ok.size,by simp,h.ok.lo,h.ok.hi⟩⟩
end
theorem plus_mono {S:Nat -> Prop} {w w1 w2 w':World} (h1:w.heap.size <= w1.heap.size) (h2:w2.heap.size <= w'.heap.size):∀ k,Plus S w1 w2 k -> Plus S w w' k :=
 fun _ h=>h.imp id fun h=>⟨Nat.le_trans h1 h.1,Nat.lt_of_lt_of_le h.2 h2⟩
theorem fr_one {S:Nat -> Prop} {w w':World} {b:Nat} (hb:S b) (hf:Fr (· = b) w w'):Fr S w w':=hf.mono fun _ e=>by subst e;exact hb
abbrev tDisk:Nat:=122
abbrev tWrite:Nat:=150
abbrev kD:Kd:=⟨tDisk,tWrite,by decide,by decide,by decide⟩
abbrev IsDisk (w:World) (b:Nat) (S:Nat -> Prop) (D:DSt):Prop:=IsDsk kD w b S D
theorem act_dead {b:Nat} {S:Nat -> Prop} {D:DSt} {w:World} (h:IsDisk w b S D) (h0:D.power = 0) :
 Calls Tryz.prog 77 #[.pointer (some ⟨b,0,none⟩)] w fun e w'=>e = .returned (.bool false) /\ IsDisk w' b S D.die /\ Fr S w w':=by
 obtain ⟨bs,cs,sp,wv,h⟩:=h
 have c2:w.cell? ⟨b,2,none⟩ = some (.int .i64 0):=by rw [h.head.cell rfl,h0]
 have c3:=h.head.cell (j:=3) rfl
 have f3:=h.head.free 3
 have hb:=h.head.set 3 (.bool true)
 have hf:Fr (· = b) w (w.setCell ⟨b,3,none⟩ (.bool true)):=Fr.setCell (S:=(· = b)) rfl w 3 _
 have H:=hid (And.intro (⟨bs,cs,sp,wv,h.turn hb hf h.ok.lo h.ok.hi⟩:IsDisk _ b S D.die) (fr_one h.own hf))
 clear hb hf h
 go_enter Tryz.func77,Tryz.ntmps77
 go_wp2
 go_ret
 exact ⟨rfl,H.out⟩
theorem act_live {b:Nat} {S:Nat -> Prop} {D:DSt} {w:World} (h:IsDisk w b S D) (h0:D.power ≠ 0) :
 Calls Tryz.prog 77 #[.pointer (some ⟨b,0,none⟩)] w fun e w'=>e = .returned (.bool true) /\ IsDisk w' b S D.pay /\ Fr S w w':=by
 obtain ⟨bs,cs,sp,wv,h⟩:=h
 have c2:=h.head.cell (j:=2) rfl
 have f2:=h.head.free 2
 have ep:(D.power == 0) = false:=by simpa using h0
 have hlo:=h.ok.lo
 have hhi:=h.ok.hi
 by_cases hp:0 < D.power
 ·have hb:=h.head.set 2 (.int .i64 (D.power - 1))
  have hf:Fr (· = b) w (w.setCell ⟨b,2,none⟩ (.int .i64 (D.power - 1))):=Fr.setCell (S:=(· = b)) rfl w 2 _
  have h1:=h.turn hb hf (by omega) (by omega)
  have h2:IsDisk (w.setCell ⟨b,2,none⟩ (.int .i64 (D.power - 1))) b S D.pay:=⟨bs,cs,sp,wv,by unfold DSt.pay;rw [if_pos hp];exact h1⟩
  have H:=hid (And.intro h2 (fr_one h.own hf))
  clear hb hf h h1 h2 h0
  generalize D.power = p at *
  go_enter Tryz.func77,Tryz.ntmps77
  go_wp2
  go_ret
  exact ⟨rfl,H.out⟩
 ·have h2:IsDisk w b S D.pay:=⟨bs,cs,sp,wv,by unfold DSt.pay;rw [if_neg hp];exact h⟩
  have H:=hid (And.intro h2 (Fr.refl S w))
  clear h h2 h0
  generalize D.power = p at *
  go_enter Tryz.func77,Tryz.ntmps77
  go_wp2
  go_ret
  exact ⟨rfl,H.out⟩
theorem Tryz.infoWrite:(Tryz.prog.info? tWrite).map (fun i=>(i.zero,i.size,i.bytes)) = some (some (.agg #[.int .i64 0,.string ByteArray.empty]),2,24):=by kernel_rfl
theorem Tryz.rowWrite:RowT Tryz.prog 120 tWrite 2 24:=by
 obtain ⟨i0,hi,hz0,hz1,hz2⟩:=info_parts Tryz.infoWrite
 exact ⟨⟨i0,_,Tryz.underlying120,hi,hz0,hz1,hz2,rfl⟩,by decide,by decide⟩
theorem write_off {b:Nat} {S:Nat -> Prop} {D:DSt} {w:World} (h:IsDisk w b S D) (h0:D.off = true) (i:Int) (s:ByteArray) :
 Calls Tryz.prog 35 #[.pointer (some ⟨b,0,none⟩),.int .i64 i,.string s] w fun e w'=>e = .returned (.int .i64 7) /\ w = w':=by
 obtain ⟨bs,cs,sp,wv,h⟩:=h
 have c3:w.cell? ⟨b,3,none⟩ = some (.bool true):=by rw [h.head.cell rfl,h0]
 go_enter Tryz.func35,Tryz.ntmps35
 go_wp2
 go_ret
 exact ⟨rfl,rfl⟩
theorem write_arg {b:Nat} {S:Nat -> Prop} {D:DSt} {w:World} (h:IsDisk w b S D) (h0:D.off = false) (i:Int) (s:ByteArray)
 (hi:(i < 0 \/ (D.safe.length:Int) <= i) \/ s.size ≠ 64) :
 Calls Tryz.prog 35 #[.pointer (some ⟨b,0,none⟩),.int .i64 i,.string s] w fun e w'=>e = .returned (.int .i64 1) /\ w = w':=by
 obtain ⟨bs,cs,sp,wv,h⟩:=h
 have c3:w.cell? ⟨b,3,none⟩ = some (.bool false):=by rw [h.head.cell rfl,h0]
 have c0:=h.head.cell (j:=0) rfl
 have hn:=h.ok.len
 clear h h0
 generalize D.safe.length = n at *
 rcases hi with (hi | hi) | hi
 ·go_enter Tryz.func35,Tryz.ntmps35
  go_wp2
  go_ret
  exact ⟨rfl,rfl⟩
 ·have h2:¬ i < 0:=by omega
  go_enter Tryz.func35,Tryz.ntmps35
  go_wp2
  go_ret
  exact ⟨rfl,rfl⟩
 ·by_cases h2:i < 0
  ·go_enter Tryz.func35,Tryz.ntmps35
   go_wp2
   go_ret
   exact ⟨rfl,rfl⟩
  ·by_cases h3:(n:Int) <= i
   ·go_enter Tryz.func35,Tryz.ntmps35
    go_wp2
    go_ret
    exact ⟨rfl,rfl⟩
   ·go_enter Tryz.func35,Tryz.ntmps35
    go_wp2
    go_ret
    exact ⟨rfl,rfl⟩
theorem write_dead {b:Nat} {S:Nat -> Prop} {D:DSt} {w:World} (h:IsDisk w b S D) (h0:D.off = false) (i:Int) (s:ByteArray)
 (h1:0 <= i) (h2:i < D.safe.length) (h3:s.size = 64) (h4:D.power = 0) :
 Calls Tryz.prog 35 #[.pointer (some ⟨b,0,none⟩),.int .i64 i,.string s] w fun e w'=>e = .returned (.int .i64 7) /\ IsDisk w' b S D.die /\ Fr S w w':=by
 have HA:=hid (act_dead h h4)
 obtain ⟨bs,cs,sp,wv,h⟩:=h
 have c3:w.cell? ⟨b,3,none⟩ = some (.bool false):=by rw [h.head.cell rfl,h0]
 have c0:=h.head.cell (j:=0) rfl
 have hn:=h.ok.len
 clear h h0 h4
 generalize D.safe.length = n at *
 have h5:¬ i < 0:=by omega
 go_enter Tryz.func35,Tryz.ntmps35
 go_wp2_with (go_at_call 77;refine HA.out.mono ?_;rintro e w' ⟨rfl,hd,hf⟩)
 go_ret
 exact ⟨rfl,hd,hf⟩
theorem write_ok {b:Nat} {S:Nat -> Prop} {D:DSt} {w:World} (h:IsDisk w b S D) (h0:D.off = false) (i:Nat) (s:ByteArray)
 (h2:i < D.safe.length) (h3:s.size = 64) (h4:D.power ≠ 0) (hl:(D.wait.length + 1) * 24 <= 140737488355328) :
 Calls Tryz.prog 35 #[.pointer (some ⟨b,0,none⟩),.int .i64 i,.string s] w fun e w' =>
  e = .returned (.int .i64 0) /\ IsDisk w' b (Plus S w w') { D.pay with wait:=D.wait ++ [(i,s)] } /\ Fr S w w':=by
 have HA:=hid (act_live h h4)
 obtain ⟨bs,cs,sp,wv,h⟩:=h
 have c3:w.cell? ⟨b,3,none⟩ = some (.bool false):=by rw [h.head.cell rfl,h0]
 have c0:=h.head.cell (j:=0) rfl
 have hn:=h.ok.len
 have HL:=hid hl
 clear h h0 h4 hl
 have H3:=hid h3
 have HI:=hid (show i < D.pay.safe.length from h2)
 have h3':(s.size:Int) = 64:=by omega
 clear h3
 have hi0:(i:Int) < (D.safe.length:Int):=by omega
 go_enter Tryz.func35,Tryz.ntmps35
 go_wp2_with fail
 refine HA.out.mono ?_;rintro e w1 ⟨rfl,hd,hf⟩
 obtain ⟨bs1,cs1,sp1,wv1,hd⟩:=hd
 have d1:=hd.head.cell (j:=1) rfl;have g1:=hd.head.free 1
 have hown:=hd.wait
 have HD:=hid hd
 have HF:=hid hf
 clear hd hf c3 c0
 go_wp2_with (at_builtin;go_loud (refine wpList_append_mine rfl (ho:=rfl) (s:=.tmp 40) (x:=.tmp 44) Tryz.rowWrite rfl (hown.alloc _) rfl (srcs_two w1 _ _ _ 1 rfl rfl) HL.out ?_);skip)
 intro v' w2 hown2 hf2 hv2 _
 obtain ⟨g',cap',rfl⟩:=row_succ hown2
 have d2:=((HD.out.head.alloc _).fr hf2 (fun e=>(HD.out.apart e).2.1 rfl)).cell (j:=1) rfl
 have g2:=((HD.out.head.alloc _).fr hf2 (fun e=>(HD.out.apart e).2.1 rfl)).free 1
 go_wp2
 go_ret
 have hw:=HD.out.wrote (((Fr.refl _ w1).alloc _).trans hf2) hown2 (fun k hk=>(hv2 k hk).imp id (fun h=>Nat.le_of_succ_le h)) HI.out H3.out
 exact ⟨rfl,hw.1.mono (plus_mono HF.out.size (Nat.le_refl _)),HF.out.trans hw.2⟩
theorem flush_off {b:Nat} {S:Nat -> Prop} {D:DSt} {w:World} (h:IsDisk w b S D) (h0:D.off = true) :
 Calls Tryz.prog 196 #[.pointer (some ⟨b,0,none⟩)] w fun e w'=>e = .returned (.int .i64 7) /\ w = w':=by
 obtain ⟨bs,cs,sp,wv,h⟩:=h
 have c3:w.cell? ⟨b,3,none⟩ = some (.bool true):=by rw [h.head.cell rfl,h0]
 go_enter Tryz.func196,Tryz.ntmps196
 go_wp2
 go_ret
 exact ⟨rfl,rfl⟩
theorem flush_dead {b:Nat} {S:Nat -> Prop} {D:DSt} {w:World} (h:IsDisk w b S D) (h0:D.off = false) (h4:D.power = 0) :
 Calls Tryz.prog 196 #[.pointer (some ⟨b,0,none⟩)] w fun e w'=>e = .returned (.int .i64 7) /\ IsDisk w' b S D.die /\ Fr S w w':=by
 have HA:=hid (act_dead h h4)
 obtain ⟨bs,cs,sp,wv,h⟩:=h
 have c3:w.cell? ⟨b,3,none⟩ = some (.bool false):=by rw [h.head.cell rfl,h0]
 clear h h0 h4
 go_enter Tryz.func196,Tryz.ntmps196
 go_wp2_with (go_at_call 77;refine HA.out.mono ?_;rintro e w' ⟨rfl,hd,hf⟩)
 go_ret
 exact ⟨rfl,hd,hf⟩
theorem flush_ok1 {b:Nat} {S:Nat -> Prop} {D D1:DSt} {w:World} (hD:D1 = D.pay) (h:IsDisk w b S D) (h0:D.off = false) (h4:D.power ≠ 0) (hl:D1.wait.length <= 9223372036854775807) :
 Calls Tryz.prog 196 #[.pointer (some ⟨b,0,none⟩)] w fun e w' =>
  e = .returned (.int .i64 0) /\ IsDisk w' b S { D1 with safe:=puts D1.safe D1.wait,wait:=[] } /\ Fr S w w':=by
 have HA:=hid (act_live h h4)
 rw [<- hD] at HA
 clear hD
 obtain ⟨bs,cs,sp,wv,h⟩:=h
 have c3:w.cell? ⟨b,3,none⟩ = some (.bool false):=by rw [h.head.cell rfl,h0]
 clear h h0 h4
 go_enter Tryz.func196,Tryz.ntmps196
 go_wp2_with fail
 refine HA.out.mono ?_;rintro e w1 ⟨rfl,hd,hf⟩
 obtain ⟨bs1,cs1,sp1,wv1,hd⟩:=hd
 obtain ⟨ao,cap,rfl⟩:∃ ao cap,wv1 = .slice ao D1.wait.length cap:=by
  rcases row_form hd.wait with ⟨h1,h2⟩ | ⟨g,cap,h1⟩
  ·exact ⟨none,0,by rw [h1,h2]⟩
  ·exact ⟨_,_,h1⟩
 have d1:=hd.head.cell (j:=1) rfl
 have HD:=hid hd
 have HF:=hid hf
 obtain ⟨n,hn⟩:∃ n,n = D1.wait.length:=⟨_,rfl⟩
 rw [<- hn] at d1 hl
 have HN:=hid hn
 clear hd hf c3 hn
 go_wp2_with fail
 go_loopw [23] (fun i wr=>∃ k:Nat,k <= n /\ i = .int .i64 k /\ IsDskAt kD wr b bs1 cs1 sp1 (.slice ao D1.wait.length cap) S { D1 with safe:=puts D1.safe (D1.wait.take k) } /\ Fr S w1 wr) (fun i _=>n - (intOf i).toNat)
 case atStart=>exact ⟨0,Nat.zero_le _,rfl,HD.out,Fr.refl _ _⟩
 case round =>
  obtain ⟨k,hk,rfl,hd,hf⟩:=hrel
  by_cases hlt:k < n
  ·have hkw:k < D1.wait.length:=by rw [<- HN.out];exact hlt
   obtain ⟨x,hx⟩:∃ x,D1.wait[k]? = some x:=⟨_,List.getElem?_eq_getElem hkw⟩
   obtain ⟨g,cap',hg⟩:∃ g cap',(Value.slice ao D1.wait.length cap) = .slice (some ⟨g,0,none⟩) D1.wait.length cap':=by
    rcases row_form hd.wait with ⟨_,h2⟩ | ⟨g,cap,h1⟩
    ·simp only at h2;omega
    ·exact ⟨_,_,h1⟩
   simp only [Value.slice.injEq,true_and] at hg
   obtain ⟨rfl,rfl⟩:=hg
   have e1:=hd.wait.cells (g:=g) rfl (k * 2) _ (flatW_get hx).1
   have e2:=hd.wait.cells (g:=g) rfl (k * 2 + 1) _ (flatW_get hx).2
   simp only [Addr.add_lit,Nat.zero_add] at e1 e2
   have hxl:x.1 < (puts D1.safe (D1.wait.take k)).length:=by rw [puts_length];exact HD.out.ok.at_ x (List.mem_of_getElem? hx)
   have p0:=hd.head.cell (j:=0) rfl
   obtain ⟨y,hy⟩:∃ y,(puts D1.safe (D1.wait.take k))[x.1]? = some y:=⟨_,List.getElem?_eq_getElem hxl⟩
   have q0:=hd.rows.cell (j:=x.1) (v:=.string y) (strs_get hy)
   have f0:=hd.rows.free x.1
   have hbl:=hd.head.lt
   have hsl:=hd.rows.lt
   have HD1:=hid hd
   have HF1:=hid hf
   have HK:=hid hx
   have hxn:(x.1:Int) < ((puts D1.safe (D1.wait.take k)).length:Int):=by omega
   clear hd hf hkw hx hy hxl
   obtain ⟨xi,xs⟩:=x
   simp only at *
   generalize (puts D1.safe (D1.wait.take k)).length = ns at *
   go_wp2_with fail
   refine wp_region_tail 9 (by kernel_rfl) (by kernel_rfl) ?_
   simp only [List.take_succ_cons,List.take_zero,List.drop_succ_cons,List.drop_zero]
   repeat still_step
   refine wpStill_nil ?_
   go_wp2_with fail
   go_roundw
   case rel =>
    have hp:=HD1.out.put (i:=xi) (s:=xs) (HD1.out.ok.wsize (xi,xs) (List.mem_of_getElem? HK.out)) (by show xi < (puts _ _).length;rw [puts_length];exact HD.out.ok.at_ (xi,xs) (List.mem_of_getElem? HK.out))
    refine ⟨k + 1,by omega,by go_num,?_,((HF1.out.set (.inl HD1.out.ownS) xi _).alloc _).drew⟩
    rw [puts_take _ HK.out]
    exact (hp.alloc _).drew
   case measure=>simp [intOf];omega
  ·obtain rfl:k = n:=by omega
   have d3:=hd.head.cell (j:=1) rfl
   have g3:=hd.head.free 1
   have HD1:=hid hd
   have HF1:=hid hf
   clear hd hf
   go_wp2_with fail
   go_ret
   have hd:=HD1.out
   rw [HN.out,List.take_length] at hd
   exact ⟨rfl,hd.cleared,(HF.out.trans HF1.out).set (.inl hd.own) 1 _⟩
theorem flush_ok {b:Nat} {S:Nat -> Prop} {D:DSt} {w:World} (h:IsDisk w b S D) (h0:D.off = false) (h4:D.power ≠ 0) (hl:D.wait.length * 24 <= 140737488355328) :
 Calls Tryz.prog 196 #[.pointer (some ⟨b,0,none⟩)] w fun e w' =>
  e = .returned (.int .i64 0) /\ IsDisk w' b S { D.pay with safe:=puts D.safe D.wait,wait:=[] } /\ Fr S w w' :=
 flush_ok1 rfl h h0 h4 (by show D.wait.length <= _;omega)
theorem Tryz.infoStr:(Tryz.prog.info? tStr).map (fun i=>(i.zero,i.size,i.bytes)) = some (some (.string ByteArray.empty),1,16):=by kernel_rfl
theorem Tryz.rowStr:RowT Tryz.prog 43 tStr 1 16:=by
 obtain ⟨i0,hi,hz0,hz1,hz2⟩:=info_parts Tryz.infoStr
 exact ⟨⟨i0,_,Tryz.underlying43,hi,hz0,hz1,hz2,rfl⟩,by decide,by decide⟩
theorem sectors_calls {b:Nat} {S:Nat -> Prop} {D:DSt} {w:World} (h:IsDisk w b S D) :
 Calls Tryz.prog 121 #[.pointer (some ⟨b,0,none⟩)] w fun e w'=>e = .returned (.int .i64 D.safe.length) /\ w = w':=by
 obtain ⟨bs,cs,sp,wv,h⟩:=h
 have c1:=h.head.cell (j:=0) rfl
 clear h
 go_enter Tryz.func121,Tryz.ntmps121
 go_wp2
 go_ret
 exact ⟨rfl,rfl⟩
section
open Go.RowKit Go.Shelf
attribute [local go_sem] Oper.semAt_some
def backs (ws:List (Nat × ByteArray)):List (Nat × (Nat × ByteArray)):=(ws.zipIdx.map (fun p=>(p.2,p.1))).reverse
theorem backs_length (ws:List (Nat × ByteArray)):(backs ws).length = ws.length:=by simp [backs]
theorem backs_get (ws:List (Nat × ByteArray)) {j k:Nat} {x:Nat × ByteArray} (h:ws[k]? = some x) (hj:j + k + 1 = ws.length):(backs ws)[j]? = some (k,x):=by
 unfold backs
 rw [List.getElem?_reverse (by simp;omega)]
 simp only [List.length_map,List.length_zipIdx]
 rw [show ws.length - 1 - j = k by omega]
 simp [h]
theorem backs_rev (ws:List (Nat × ByteArray)):(backs ws).map (·.2) = ws.reverse:=by
 unfold backs
 rw [List.map_reverse,List.map_map,show ((fun x:Nat × (Nat × ByteArray)=>x.2) ∘ fun p:(Nat × ByteArray) × Nat=>(p.2,p.1)) = Prod.fst from rfl,List.zipIdx_map_fst]
theorem lastOf_none {ws:List (Nat × ByteArray)} {i:Nat} (h:∀ p ∈ backs ws,p.2.1 ≠ i):lastOf ws i = none:=by
 unfold lastOf
 rw [<- backs_rev,Option.map_eq_none_iff,List.find?_eq_none]
 intro x hx
 obtain ⟨p,hp,rfl⟩:=List.mem_map.1 hx
 simpa using h p hp
theorem lastOf_some {ws:List (Nat × ByteArray)} {i:Nat} {ini:List (Nat × (Nat × ByteArray))} {last:Nat × (Nat × ByteArray)} (hp:(ini ++ [last]) <+: backs ws) (h:∀ p ∈ ini,p.2.1 ≠ i) (hl:last.2.1 = i) :
 lastOf ws i = some last.2.2:=by
 obtain ⟨r,hr⟩:=hp
 unfold lastOf
 rw [<- backs_rev,<- hr,List.map_append,List.map_append,List.append_assoc,List.find?_append]
 have h1:(ini.map (·.2)).find? (fun x=>x.1 == i) = none:=by
  rw [List.find?_eq_none]
  intro x hx
  obtain ⟨p,hp,rfl⟩:=List.mem_map.1 hx
  simpa using h p hp
 rw [h1]
 simp [hl]
theorem back1_in (F:Fence) (n:Nat) (h7:F.fn 194) (hro:F.round = none) (hn:1 <= n) (l Bs n₀ b len cap:Nat) (ws:List (Nat × ByteArray)) (hlen:ws.length = len) (hreach:len <= 9223372036854775807) (hb:b < n₀) (hBn:Bs < n₀) (J Jx:List (Nat × (Nat × ByteArray)) -> World -> Prop)
 (hY:∀ pre x W,J pre W -> pre.length < len -> YieldAt F (n - 1) Tryz.prog l #[.int .i64 (x.1:Int),.agg #[.int .i64 (x.2.1:Int),.string x.2.2]] W fun e W' =>
  (e = .returned (.bool true) /\ J (pre ++ [x]) W' /\ Below n₀ W W') \/ (e = .returned (.bool false) /\ Jx (pre ++ [x]) W'))
 (W:World) (hBs:W.cell? ⟨Bs,0,none⟩ = some (.slice (some ⟨b,0,none⟩) len cap))
 (hc:∀ k x,ws[k]? = some x -> W.cell? ⟨b,k * 2,none⟩ = some (.int .i64 (x.1:Nat)) /\ W.cell? ⟨b,k * 2 + 1,none⟩ = some (.string x.2)) (h0:J [] W) :
 CallsIn F n Tryz.prog 194 #[.func (.yield l) #[] #[],.pointer (some ⟨Bs,0,none⟩)] W fun e W'=>(∃ v,e = .returned v) /\
  ((∃ ys,ys = backs ws /\ J ys W') \/ (∃ pre,pre <+: backs ws /\ Jx pre W')):=by
 refine callsIn_of_wp Tryz.func194 rfl h7 ?_ hro
 simp only [Tryz.ntmps194,List.size_toArray,List.length_cons,List.length_nil,Nat.reduceAdd,Nat.reduceSub,Array.replicate_succ,Array.replicate_zero,List.push_toArray,List.append_toArray,List.nil_append,List.cons_append]
 have HL:=hid hlen
 clear hlen
 gi_wp2
 gi_loopw [3] (fun i wr=>∃ j:Nat,j <= len /\ i = .int .i64 ((len:Int) - 1 - j) /\ J ((backs ws).take j) wr /\ Below n₀ W wr)
  (fun i _=>(intOf i + 1).toNat)
 case atStart=>exact ⟨0,Nat.zero_le _,by simp,by simpa using h0,Below.refl _ _⟩
 case round =>
  obtain ⟨j,hj,rfl,hJs,hnx⟩:=hrel
  by_cases hlt:j < len
  ·obtain ⟨k,hk⟩:∃ k,j + k + 1 = len:=⟨len - 1 - j,by omega⟩
   obtain ⟨x,hx⟩:∃ x,ws[k]? = some x:=⟨_,List.getElem?_eq_getElem (by rw [HL.out];omega)⟩
   have hg:=backs_get ws hx (j:=j) (by rw [HL.out];exact hk)
   have htk:(backs ws).take (j + 1) = (backs ws).take j ++ [(k,x)]:=by rw [List.take_add_one,hg];rfl
   obtain ⟨fn,tmps,assign,body,hy,hR⟩:=hY _ (k,x) wr hJs (by rw [List.length_take,backs_length,HL.out];omega)
   dsimp only at hy
   have hki:((len:Int) - 1 - j) = (k:Int):=by omega
   have e1:=(hnx.cell (p:=⟨b,k * 2,none⟩) hb).trans (hc k x hx).1
   have e2:=(hnx.cell (p:=⟨b,k * 2 + 1,none⟩) hb).trans (hc k x hx).2
   have e3:=(hnx.cell (p:=⟨Bs,0,none⟩) hBn).trans hBs
   have HT:=hid htk
   have HX:=hid hnx
   have hkl:k < len:=by omega
   have HJ:=hid hk
   clear hJs hx hg htk hc hY hnx hk
   rw [hki]
   have HK:=hid hki
   clear hki
   gi_wp2
   refine hR.mono ?_
   rintro e W3 (⟨rfl,hJ3,hk3⟩ | ⟨rfl,hJx3⟩)
   ·gi_wp2
    go_roundw
    case rel=>exact ⟨j + 1,by omega,by have:=HK.out;go_num,by rw [HT.out];exact hJ3,HX.out.trans hk3⟩
    case measure=>simp [intOf]
   ·gi_wp2
    refine bodyPost_ret (results_none rfl _ _ _) rfl ?_
    exact ⟨⟨_,rfl⟩,.inr ⟨_,⟨(backs ws).drop (j + 1),by rw [<- HT.out,List.take_append_drop]⟩,hJx3⟩⟩
  ·obtain rfl:j = len:=by omega
   have HJ:=hid hJs
   clear hJs
   gi_wp2
   go_end0
   refine ⟨⟨_,rfl⟩,.inl ⟨_,rfl,?_⟩⟩
   have:=HJ.out
   rwa [List.take_of_length_le (by rw [backs_length,HL.out];exact Nat.le_refl _)] at this
theorem back1_nil_in (F:Fence) (n:Nat) (h7:F.fn 194) (hro:F.round = none) (l Bs:Nat) (J:List (Nat × (Nat × ByteArray)) -> World -> Prop) (W:World) (hBs:W.cell? ⟨Bs,0,none⟩ = some (.slice none 0 0)) (h0:J [] W) :
 CallsIn F n Tryz.prog 194 #[.func (.yield l) #[] #[],.pointer (some ⟨Bs,0,none⟩)] W fun e W'=>(∃ v,e = .returned v) /\ J [] W':=by
 refine callsIn_of_wp Tryz.func194 rfl h7 ?_ hro
 simp only [Tryz.ntmps194,List.size_toArray,List.length_cons,List.length_nil,Nat.reduceAdd,Nat.reduceSub,Array.replicate_succ,Array.replicate_zero,List.push_toArray,List.append_toArray,List.nil_append,List.cons_append]
 gi_wp2
 gi_loopw [3] (fun i wr=>i = .int .i64 (-1) /\ J [] wr) (fun _ _=>0)
 case atStart=>exact ⟨rfl,h0⟩
 case round =>
  obtain ⟨rfl,hJs⟩:=hrel
  gi_wp2
  go_end0
  exact ⟨⟨_,rfl⟩,hJs⟩
theorem back_in (F:Fence) (n:Nat) (h5:F.fn 169) (hro:F.round = none) (a:Option Addr) (len cap:Nat) (w:World) :
 CallsIn F n Tryz.prog 169 #[.slice a len cap] w fun e w'=>e = .returned (.func (.func 194) #[] #[.pointer (some ⟨w.heap.size,0,none⟩)]) /\ w' = w.alloc (.cells #[.slice a len cap] 120):=by
 refine callsIn_of_wp Tryz.func169 rfl h5 ?_ hro
 simp only [Tryz.ntmps169,List.size_toArray,List.length_cons,List.length_nil,Nat.reduceAdd,Nat.reduceSub,Array.replicate_succ,Array.replicate_zero,List.push_toArray,List.append_toArray,List.nil_append,List.cons_append]
 gi_wp2
 go_ret
 exact ⟨rfl,rfl⟩
theorem back_calls (a:Option Addr) (len cap:Nat) (w:World) :
 Calls Tryz.prog 169 #[.slice a len cap] w fun e w'=>e = .returned (.func (.func 194) #[] #[.pointer (some ⟨w.heap.size,0,none⟩)]) /\ w' = w.alloc (.cells #[.slice a len cap] 120) :=
 callsIn_wide.1 (back_in Fence.wide 1 trivial rfl a len cap w)
theorem back_stops (F:Fence) (n:Nat) (h7:F.fn 194) (hro:F.round = none) (hn:1 <= n) (Bs n₀:Nat) (sv:Value) (ws:List (Nat × ByteArray)) (hreach:ws.length <= 9223372036854775807) (w:World) (hBs:Bs < w.heap.size) (hBn:Bs < n₀) (hn₀:n₀ <= w.heap.size)
 (hc:w.cell? ⟨Bs,0,none⟩ = some sv) (hI:w.ownsRow 0 tWrite 2 sv ws.length (flatW ws)) (hg:∀ k,sv.ownBlock = some k -> k < n₀) :
 SeqStopsK F n Tryz.prog 194 #[.pointer (some ⟨Bs,0,none⟩)] (fun x:Nat × (Nat × ByteArray)=>#[.int .i64 (x.1:Int),.agg #[.int .i64 (x.2.1:Int),.string x.2.2]]) (Below n₀) (fun ys=>ys = backs ws) (fun pre=>pre <+: backs ws) ws.length w:=fun l J Jx W hW _ _ hY h0=>by
 have hc':=(hW.cell (p:=⟨Bs,0,none⟩) hBs).trans hc
 rcases row_form hI with ⟨rfl,h1⟩ | ⟨g,cap,rfl⟩
 ·obtain rfl:ws = []:=List.eq_nil_of_length_eq_zero h1
  exact (back1_nil_in F n h7 hro l Bs J W hc' h0).mono fun e W' ⟨he,hj⟩=>⟨he,.inl ⟨_,rfl,hj⟩⟩
 ·have hgn:=hg g rfl
  refine back1_in F n h7 hro hn l Bs n₀ g ws.length cap ws rfl hreach hgn hBn J Jx hY W hc' ?_ h0
  intro k x hx
  have e1:=hI.cells (g:=g) rfl (k * 2) _ (flatW_get hx).1
  have e2:=hI.cells (g:=g) rfl (k * 2 + 1) _ (flatW_get hx).2
  simp only [Addr.add_lit,Nat.zero_add] at e1 e2
  exact ⟨(hW.cell (p:=⟨g,k * 2,none⟩) (Nat.lt_of_lt_of_le hgn hn₀)).trans e1,(hW.cell (p:=⟨g,k * 2 + 1,none⟩) (Nat.lt_of_lt_of_le hgn hn₀)).trans e2⟩
end
end Go.Proofs.YtngalllaiphkhaaGreatDoor
