import Derived.WalkKit
import Derived.ProofKit
import Derived.StillTailTactics
import Derived.Deep.QuietTactic
import Derived.BigQuiet
import Derived.Outline
import Derived.Lib.Hide
import Derived.WalkSmall
import Derived.Maps.AppendAt
import Derived.Laws.CopyOwn
import Derived.Deep.OwnRows
import Derived.Deep.RegionLaw
import Derived.RegionTactic
import Derived.BigRegion
import Derived.Deep.Slices
import Derived.Deep.Fields
import Derived.ChangeSame
import Derived.SizedLaws
import Derived.OpenShut
import Derived.ShutString
import Derived.ChangeOld
import Derived.SliceStrings
import Derived.Laws.Tables
namespace Go.Proofs.YtngalllaiphkhaaGreatDoor
open Go.RowKit
def Blk (w:World) (b:Nat) (e:TypeId) (cs:List Value):Prop:=w.heap[b]? = some (.cells cs.toArray e (0,0))
section
variable {w w':World} {b c e f j:Nat} {cs ds:List Value} {v u:Value}
theorem Blk.lt (h:Blk w b e cs):b < w.heap.size:=lt_of_block h
theorem Blk.cell (h:Blk w b e cs) (hj:cs[j]? = some v):w.cell? ⟨b,j,none⟩ = some v:=by
 rw [cell_of_row w b j _ e _ h];simpa using hj
theorem Blk.free (h:Blk w b e cs) (j:Nat):w.frozen? ⟨b,j,none⟩ = false:=frozen_of_row w b j _ e h
theorem Blk.set (h:Blk w b e cs) (j:Nat) (v:Value):Blk (w.setCell ⟨b,j,none⟩ v) b e (cs.set j v):=by
 have:=heap_setCell_same w b j _ e v h
 simpa [Blk] using this
theorem Blk.set_ne (h:Blk w b e cs) (hne:b ≠ c) (j:Nat) (v:Value):Blk (w.setCell ⟨c,j,none⟩ v) b e cs :=
 (heap_setCell_other w ⟨c,j,none⟩ b v hne).trans h
theorem Blk.alloc (h:Blk w b e cs) (o:Obj):Blk (w.alloc o) b e cs:=(Below.heap_alloc w o b h.lt).trans h
theorem Blk.drew (h:Blk w b e cs):Blk w.drew b e cs:=h
theorem Blk.new (w:World) (e:Nat) (cs:List Value):Blk (w.alloc (.cells cs.toArray e)) w.heap.size e cs:=heap_alloc_new w _
theorem Blk.ne (h:Blk w b e cs) (k:Blk w c f ds) (hne:e ≠ f):b ≠ c:=by
 intro hbc;subst hbc
 unfold Blk at h k
 rw [h] at k;simp at k
 exact hne k.2
end
structure Fr (S:Nat -> Prop) (w w':World):Prop where
 os:w'.os = w.os
 tape:w'.tape = w.tape
 output:w'.output = w.output
 size:w.heap.size <= w'.heap.size
 block:∀ k,k < w.heap.size -> ¬ S k -> w'.heap[k]? = w.heap[k]?
def Nob:Nat -> Prop:=fun _=>False
def Plus (S:Nat -> Prop) (w w':World):Nat -> Prop:=fun k=>S k \/ (w.heap.size <= k /\ k < w'.heap.size)
section
variable {S T:Nat -> Prop} {w w1 w':World}
theorem Fr.refl (S:Nat -> Prop) (w:World):Fr S w w:=⟨rfl,rfl,rfl,Nat.le_refl _,fun _ _ _=>rfl⟩
theorem Fr.trans' (h:Fr S w w1) (k:Fr T w1 w') (hT:∀ i,i < w.heap.size -> T i -> S i):Fr S w w' :=
 ⟨k.os.trans h.os,k.tape.trans h.tape,k.output.trans h.output,Nat.le_trans h.size k.size,
  fun i hi hs=>(k.block i (Nat.lt_of_lt_of_le hi h.size) (fun t=>hs (hT i hi t))).trans (h.block i hi hs)⟩
theorem Fr.trans (h:Fr S w w1) (k:Fr S w1 w'):Fr S w w':=h.trans' k fun _ _ t=>t
theorem Fr.mono (h:Fr S w w') (hS:∀ k,S k -> T k):Fr T w w':=⟨h.os,h.tape,h.output,h.size,fun k hk hn=>h.block k hk (fun s=>hn (hS k s))⟩
theorem Fr.setCell {b:Nat} (hb:S b) (w:World) (j:Nat) (v:Value):Fr S w (w.setCell ⟨b,j,.none⟩ v) :=
 ⟨rfl,rfl,rfl,by simp,fun k _ hk=>heap_setCell_other w _ k v (fun e=>hk (by rw [e];exact hb))⟩
theorem Fr.set (h:Fr S w w1) {b:Nat} (hb:S b \/ w.heap.size <= b) (j:Nat) (v:Value):Fr S w (w1.setCell ⟨b,j,.none⟩ v) :=
 h.trans' (T:=fun k=>k = b) ⟨rfl,rfl,rfl,by simp,fun k _ hk=>heap_setCell_other w1 _ k v hk⟩
  fun i hi e=>by subst e;rcases hb with hb | hb;exact hb;omega
theorem Fr.alloc (h:Fr S w w1) (o:Obj):Fr S w (w1.alloc o) :=
 h.trans ⟨rfl,rfl,rfl,by simp,fun k hk _=>Below.heap_alloc w1 o k hk⟩
theorem Fr.drew (h:Fr S w w1):Fr S w w1.drew:=⟨h.os,h.tape,h.output,h.size,h.block⟩
theorem Fr.drewN (h:Fr S w w1) (n:Nat):Fr S w (w1.drewN n):=⟨h.os,h.tape,h.output,h.size,h.block⟩
theorem Fr.grown {row:Option Nat} (h:Fr S w w1) (hg:w1.grownBy w' row) (hr:∀ k,row = some k -> S k \/ w.heap.size <= k):Fr S w w' :=
 h.trans' (T:=fun k=>row = some k) ⟨hg.os,hg.tape,hg.output,hg.size,fun k hk hn=>hg.block k hk (fun e=>hn e.symm)⟩
  fun i _ e=>by rcases hr i e with h | h;exact h;omega
theorem Fr.below (h:Fr S w w') (B:Nat) (hB:B <= w.heap.size) (hS:∀ k,S k -> B <= k):Below B w w' :=
 ⟨h.os,h.tape,h.output,h.size,fun k hk=>h.block k (Nat.lt_of_lt_of_le hk hB) (fun s=>by have:=hS k s;omega)⟩
theorem Fr.of_below {B:Nat} (h:Below B w w') (hS:∀ k,k < w.heap.size -> ¬ S k -> k < B):Fr S w w' :=
 ⟨h.os,h.tape,h.output,h.size,fun k hk hn=>h.block k (hS k hk hn)⟩
theorem Blk.fr {b e:Nat} {cs:List Value} (h:Blk w b e cs) (hf:Fr S w w') (hb:¬ S b):Blk w' b e cs:=(hf.block b h.lt hb).trans h
end
theorem Fr.cell {S:Nat -> Prop} {w w':World} (hf:Fr S w w') {a:Addr} {v:Value} (h:w.cell? a = some v) (hS:¬ S a.block):w'.cell? a = some v :=
 (World.cell?_of_block (w:=w) (hf.block _ (World.block_lt_of_cell? _ _ h) hS)).trans h
theorem row_fr {S:Nat -> Prop} {w w':World} {e size n:Nat} {v:Value} {xs:List Value} (h:w.ownsRow 0 e size v n xs) (hf:Fr S w w')
 (hb:∀ k,v.ownBlock = some k -> ¬ S k):w'.ownsRow 0 e size v n xs:=by
 refine ⟨h.1,?_⟩
 rcases h.2 with hn | ⟨g,cap,cur,rfl,hb0,hgg,rest⟩
 ·exact .inl hn
 ·exact .inr ⟨g,cap,cur,rfl,hb0,(hf.block g (lt_of_block hgg) (hb g rfl)).trans hgg,rest⟩
structure RowT (P:Program) (t e:TypeId) (size bytes:Nat):Prop where
 ex:∃ i z,P.underlying t = some (.slice e) /\ P.info? e = some i /\ i.zero = some z /\ i.size = size /\ i.bytes = bytes /\ z.cells.size = size
 pos:0 < size
 posb:0 < bytes
def Srcs (w:World) (src:Value) (m size:Nat) (news:List Value):Prop :=
 news.length = m * size /\ (∀ u ∈ news,u.oneCell' = true) /\
  ((src = .slice none 0 0 /\ m = 0) \/ ∃ ad c,src = .slice (some ad) m c /\ ∀ j u,news[j]? = some u -> w.cell? (ad.add j) = some u)
theorem ownsRow_base {w:World} {B e size n:Nat} {v:Value} {xs:List Value} (h:w.ownsRow B e size v n xs):w.ownsRow 0 e size v n xs:=by
 refine ⟨h.1,?_⟩
 rcases h.2 with hn | ⟨g,cap,cur,h1,_,h2⟩
 ·exact .inl hn
 ·exact .inr ⟨g,cap,cur,h1,Nat.zero_le _,h2⟩
theorem run_append_mine {P:Program} {w:World} {t e ty:TypeId} {size bytes:Nat} (hT:RowT P t e size bytes) {v:Value} {n:Nat} {xs:List Value} (hown:w.ownsRow 0 e size v n xs)
 {src:Value} {m:Nat} {news:List Value} (hsrc:Srcs w src m size news) (hbytes:(n + m) * bytes <= 140737488355328) :
 ∃ v' w',(Builtin.append_ #[t,t] ty #[v,src]).run P w = .ok v' w' /\ w'.ownsRow 0 e size v' (n + m) (xs ++ news) /\ Fr (fun k=>v.ownBlock = some k) w w' /\
  (∀ k,v'.ownBlock = some k -> v.ownBlock = some k \/ w.heap.size <= k) /\ (v' = .slice none 0 0 ↔ v = .slice none 0 0 /\ m = 0):=by
 obtain ⟨⟨i,z,ht,hi,hz,hsize,hby,hzs⟩,hpos,hposb⟩:=hT
 obtain ⟨hl,h1,hs⟩:=hsrc
 have h63:n + m <= maxLen:=by
  have:=Nat.le_mul_of_pos_right (n + m) hposb
  unfold maxLen;omega
 rcases hs with ⟨rfl,rfl⟩ | ⟨ad,c,rfl,hnews⟩
 ·have hn:news = []:=List.eq_nil_of_length_eq_zero (by simpa using hl)
  subst hn
  refine ⟨v,w,run_append_owned_none (P:=P) (w:=w) 0 t ty e i size ht hi v n xs hown,by simpa using hown,Fr.refl _ _,fun k hk=>.inl hk,by simp⟩
 ·rcases hown.2 with ⟨rfl,rfl⟩ | ⟨g,cap,cur,rfl,hbg,hg,hnc,hcm,hcs,htake⟩
  ·obtain ⟨v',w',hr,h2,h3,h4⟩:=run_append_own (P:=P) w w.heap.size t ty e i z size bytes ht hi hz hsize hby hzs hpos (.slice none 0 0) 0 xs
    ⟨hown.1,.inl ⟨rfl,rfl⟩⟩ ad m c news hl hnews h1 h63 hbytes (Nat.le_refl _)
   refine ⟨v',w',hr,ownsRow_base h2,(Fr.refl _ w).grown h3 (fun k hk=>by cases hk),fun k hk=>.inr (h2.lt k hk).1,h4⟩
  ·by_cases hroom:n + m <= cap
   ·subst hsize
    have hfit:n * i.size + news.length <= cur.size:=by rw [hl,hcs,<- Nat.add_mul];exact Nat.mul_le_mul_right _ hroom
    have hr:=run_append_room (P:=P) w t ty e i ht hi g n cap cur hg ad m c news hl hnews h1 hroom hfit
    refine ⟨_,_,hr,⟨?_,.inr ⟨g,cap,_,rfl,hbg,setRow_heap w g cur _ e _ hg,hroom,hcm,?_,?_⟩⟩,⟨rfl,rfl,rfl,by simp,?_⟩,fun k hk=>.inl hk,by simp⟩
    ·rw [List.length_append,hown.1,hl,Nat.add_mul]
    ·simp only [List.size_toArray,List.length_append,List.length_take,List.length_drop,Array.length_toList]
     omega
    ·rw [htake,show (n + m) * i.size = (xs ++ news).length by rw [List.length_append,hown.1,hl,Nat.add_mul]]
     exact List.take_left
    ·intro k _ hk
     exact setRow_other w g k _ (fun e=>hk (by simp [Value.ownBlock,e]))
   ·have holds:∀ j u,xs[j]? = some u -> w.cell? ((⟨g,0,none⟩:Addr).add j) = some u:=hown.cells (g:=g) rfl
    obtain ⟨v',w',hr,h2,h3⟩:=run_append_arg_grows (P:=P) w t ty e i z size bytes ht hi hz hsize hby hzs hpos ⟨g,0,none⟩ n cap xs hown.1 holds ad m c news hl hnews (by omega) h63 hbytes
    refine ⟨v',w',hr,ownsRow_base h2,(Fr.refl _ w).grown h3 (fun k hk=>by cases hk),fun k hk=>.inr (h2.lt k hk).1,?_⟩
    rcases h2.2 with ⟨_,h0⟩ | ⟨g',_,_,hv,_⟩
    ·omega
    ·rw [hv];simp
theorem wpList_append_mine {P:Program} {w:World} {ops:Array Oper} {rest:List Oper} {o:Oper} {a:Act} {Q:Exit -> Act -> World -> Prop} (hgd:o.guard = none) {s x:Operand} {t e:TypeId} {size bytes:Nat}
 (ho:o.op = .call { callee:=.builtin .append,args:=#[s,x],argTypes:=#[t,t] }) (hT:RowT P t e size bytes) {v:Value} {n:Nat} {xs:List Value} (hs:a.eval s = v) (hown:w.ownsRow 0 e size v n xs)
 {src:Value} {m:Nat} {news:List Value} (hx:a.eval x = src) (hsrc:Srcs w src m size news) (hbytes:(n + m) * bytes <= 140737488355328)
 (h:∀ v' w',w'.ownsRow 0 e size v' (n + m) (xs ++ news) -> Fr (fun k=>v.ownBlock = some k) w w' -> (∀ k,v'.ownBlock = some k -> v.ownBlock = some k \/ w.heap.size <= k) -> (v' = .slice none 0 0 ↔ v = .slice none 0 0 /\ m = 0) ->
  wpList P ops Q rest (a.put o.dst v') w'):wpList P ops Q (o :: rest) a w:=by
 refine wpList_plain hgd fun K hK=>?_
 obtain ⟨v',w',hr,h2,h3,h4,h5⟩:=run_append_mine (P:=P) (ty:=o.type) hT hown hsrc hbytes
 unfold Oper.wp execOp
 simp only [ho,resolve,invoke,builtin,Sem.run_bind,Sem.run_pure,Result.andThen_ok,List.map_toArray,List.map_cons,List.map_nil,hs,hx,hr]
 exact hK _ _ (h v' w' h2 h3 h4 h5)
theorem srcs_one (w:World) (x:Value) (t:TypeId) (c:Nat) (hx:x.oneCell' = true):Srcs (w.alloc (.cells #[x] t)) (.slice (some ⟨w.heap.size,0,none⟩) 1 c) 1 1 [x] :=
 ⟨rfl,by simpa using hx,.inr ⟨_,_,rfl,cell_one_new w x t⟩⟩
theorem srcs_two (w:World) (x y:Value) (t:TypeId) (c:Nat) (hx:x.oneCell' = true) (hy:y.oneCell' = true):Srcs (w.alloc (.cells #[x,y] t)) (.slice (some ⟨w.heap.size,0,none⟩) 1 c) 1 2 [x,y] :=
 ⟨rfl,by simp [hx,hy],.inr ⟨_,_,rfl,cell_two_new w x y t⟩⟩
theorem wp_region_tail {P:Program} {id:Nat} {Q:Exit -> Act -> World -> Prop} {a:Act} {w:World} {l:List Oper} (n:Nat) (hm:P.follows .mixedOrders = true) (hB:Region.lexTailB .any l.toArray n = true)
 (h:wpStill P l.toArray w.drew (fun a'=>wpList P l.toArray Q (l.drop n) a' w.drew) (l.take n) a):(Code.region id l.toArray true).wp P Q a w :=
 wp_region_still_tail n hm hB h
theorem wp_region_reads {P:Program} {id:Nat} {Q:Exit -> Act -> World -> Prop} {a:Act} {w:World} {l:List Oper} (hm:P.follows .mixedOrders = true) (hB:Region.lexB .any l.toArray = true)
 (h:wpStill P l.toArray w.drew (fun a'=>Q .normal a' w.drew) l a):(Code.region id l.toArray true).wp P Q a w :=
 wp_region_still_lit hm hB h
structure FrFrom (w0:World) where
 w:World
 fr:Fr Nob w0 w
instance (w0:World):Inhabited (FrFrom w0):=⟨⟨w0,Fr.refl _ _⟩⟩
theorem wp_region_from {P:Program} {id:Nat} {Q:Exit -> Act -> World -> Prop} {a:Act} {w:World} {l:List Oper} (hm:P.follows .mixedOrders = true) (hB:Region.lexB .any l.toArray = true)
 (h:wpQuiet P l.toArray (fun w'=>∃ p:FrFrom w,w' = p.w) (fun a'=>∀ w',(∃ p:FrFrom w,w' = p.w) -> Q .normal a' w') l a):(Code.region id l.toArray true).wp P Q a w :=
 wp_region_quiet (C:=fun w'=>∃ p:FrFrom w,w' = p.w) hm hB ⟨⟨w.drew,(Fr.refl _ _).drew⟩,rfl⟩ (by simpa using h)
theorem Calls.frfrom {P:Program} {f:FuncId} {args:Array Value} {w:World} {p:FrFrom w} {v:Value} (h:Calls P f args p.w fun e w'=>e = .returned v /\ Fr Nob p.w w') :
 Calls P f args p.w fun e w''=>e = .returned v /\ ∃ q:FrFrom w,w'' = q.w :=
 h.mono fun _ w' ⟨he,hf⟩=>⟨he,⟨w',p.fr.trans hf⟩,rfl⟩
theorem Srcs.fr {S:Nat -> Prop} {w w':World} {src:Value} {m size:Nat} {news:List Value} (h:Srcs w src m size news) (hf:Fr S w w') (hS:∀ ad n c,src = .slice (some ad) n c -> ¬ S ad.block):Srcs w' src m size news:=by
 obtain ⟨h1,h2,h3⟩:=h
 refine ⟨h1,h2,?_⟩
 rcases h3 with h3 | ⟨ad,c,e,hc⟩
 ·exact .inl h3
 ·refine .inr ⟨ad,c,e,fun j u hj=>?_⟩
  have:=hc j u hj
  have hlt:=World.block_lt_of_cell? _ _ this
  have hb:(ad.add j).block = ad.block:=by unfold Addr.add;split <;> rfl
  rw [hb] at hlt
  rw [World.cell?_of_block (w:=w) (by rw [hb];exact hf.block _ hlt (hS ad m c e))]
  exact this
theorem Srcs.at {w:World} {a:Option Addr} {m k c size:Nat} {news:List Value} (h:Srcs w (.slice a k c) m size news) {j:Nat} {u:Value} (hu:news[j]? = some u) :
 ∃ g off,a = some ⟨g,off,none⟩ /\ w.cell? ⟨g,off + j,none⟩ = some u:=by
 obtain ⟨h1,_,h3⟩:=h
 rcases h3 with ⟨_,h0⟩ | ⟨ad,c',e,hc⟩
 ·subst h0
  have:news = []:=List.eq_nil_of_length_eq_zero (by simpa using h1)
  subst this
  simp at hu
 ·have h4:=hc j u hu
  simp only [Value.slice.injEq] at e
  obtain ⟨g,off,sp⟩:=ad
  have h5:sp = none:=by
   have hlt:=(List.getElem?_eq_some_iff.1 hu).1
   have h6:=World.cell?_spot (hc 0 _ (List.getElem?_eq_getElem (by omega)))
   rw [show (⟨g,off,sp⟩:Addr).add 0 = ⟨g,off,sp⟩ by unfold Addr.add;simp] at h6
   exact h6
  subst h5
  rw [Addr.add_lit] at h4
  exact ⟨g,off,e.1,h4⟩
theorem row_form {w:World} {B e size n:Nat} {v:Value} {xs:List Value} (h:w.ownsRow B e size v n xs):(v = .slice none 0 0 /\ n = 0) \/ ∃ g cap,v = .slice (some ⟨g,0,none⟩) n cap:=by
 rcases h.2 with h0 | ⟨g,cap,_,rfl,_⟩
 ·exact .inl h0
 ·exact .inr ⟨g,cap,rfl⟩
theorem row_succ {w:World} {B e size n:Nat} {v:Value} {xs:List Value} (h:w.ownsRow B e size v (n + 1) xs):∃ g cap,v = .slice (some ⟨g,0,none⟩) (n + 1) cap:=by
 rcases row_form h with h | h
 ·omega
 ·exact h
theorem row_any {w:World} {B e size n:Nat} {v:Value} {xs:List Value} (h:w.ownsRow B e size v n xs):∃ ao cap,v = .slice ao n cap:=by
 rcases row_form h with ⟨h1,rfl⟩ | ⟨g,cap,h1⟩
 ·exact ⟨none,0,h1⟩
 ·exact ⟨_,_,h1⟩
theorem row_srcs {w:World} {B e m size:Nat} {v:Value} {xs:List Value} (h:w.ownsRow B e size v m xs) (h1:∀ u ∈ xs,u.oneCell' = true):Srcs w v m size xs:=by
 refine ⟨h.1,h1,?_⟩
 rcases row_form h with h0 | ⟨g,cap,rfl⟩
 ·exact .inl h0
 ·exact .inr ⟨_,_,rfl,h.cells (g:=g) rfl⟩
theorem wpList_make_mine {P:Program} {w:World} {ops:Array Oper} {rest:List Oper} {o:Oper} {a:Act} {Q:Exit -> Act -> World -> Prop} (hg:o.guard = none) {l c:Operand} {t e bytes:Nat} (hop:o.op = Op.makeSlice t l c)
 {z:Value} (hT:P.underlying t = some (.slice e)) (hI:(P.info? e).map (fun i=>(i.zero,i.size,i.bytes)) = some (some z,1,bytes)) (hz1:z.cells = #[z])
 {kl kc:IntKind} {n:Nat} (hl:a.eval l = .int kl (n:Int)) (hc:a.eval c = .int kc (n:Int)) (hbytes:bytes * n <= 281474976710656) (h63:n <= 9223372036854775807)
 (hK:∀ w',Blk w' w.heap.size e (List.replicate n z) -> Fr Nob w w' -> w'.heap.size = w.heap.size + 1 -> wpList P ops Q rest (a.put o.dst (.slice (some ⟨w.heap.size,0,none⟩) n n)) w') :
 wpList P ops Q (o :: rest) a w:=by
 obtain ⟨i,hi,hzz⟩:=Option.map_eq_some_iff.1 hI
 simp only [Prod.mk.injEq] at hzz
 obtain ⟨hz,hs,hb⟩:=hzz
 refine wpList_make_row w hg l c t hop e i z hT hi hz hs hz1 kl kc n hl hc (by rw [hb];exact hbytes) h63 (hK _ ?_ ((Fr.refl _ w).alloc _) (by simp))
 have e1:madeCells #[z] n = (List.replicate n z).toArray:=by
  apply Array.ext
  ·simp [size_madeCells]
  ·intro i h1 h2
   simp [madeCells,Nat.mod_one]
 rw [e1]
 exact Blk.new w e _
theorem wpList_copy_mine {P:Program} {w:World} {ops:Array Oper} {rest:List Oper} {o:Oper} {a:Act} {Q:Exit -> Act -> World -> Prop} (hgd:o.guard = none) {d s:Operand} {dT sT:TypeId}
 (ho:o.op = .call { callee:=.builtin .copy,args:=#[d,s],argTypes:=#[dT,sT] }) {e bytes:Nat} (hT:RowT P dT e 1 bytes)
 {g off dLen dCap sLen sCap:Nat} {ad:Addr} (hd:a.eval d = .slice (some ⟨g,off,none⟩) dLen dCap) (hs:a.eval s = .slice (some ad) sLen sCap)
 {cur:List Value} {t:Nat} (hg:Blk w g t cur) {cs:List Value} (hn:cs.length = Nat.min sLen dLen) (hsrc:∀ j v,cs[j]? = some v -> w.cell? (ad.add j) = some v)
 (hfit:off + cs.length <= cur.length) (h1:∀ v ∈ cs,v.oneCell' = true)
 (h:∀ w',Blk w' g t (splice cur off cs) -> Fr (· = g) w w' -> w'.heap.size = w.heap.size -> wpList P ops Q rest (a.put o.dst (goInt cs.length)) w'):wpList P ops Q (o :: rest) a w:=by
 obtain ⟨⟨i,z,ht,hi,hz,hsize,hby,hzs⟩,hpos,hposb⟩:=hT
 have hsz:(P.info? e).map (·.size) = some 1:=by rw [hi];simp [hsize]
 by_cases h0:cs.length = 0
 ·obtain rfl:cs = []:=List.eq_nil_of_length_eq_zero h0
  refine wpList_copy_nothing hgd d s dT sT ho e ht hsz _ _ dLen dCap sLen sCap hd hs (by simpa using hn.symm) ?_
  exact h w (by simpa [splice] using hg) (Fr.refl _ _) rfl
 ·refine wpList_copy_own hgd d s dT sT ho e ht hsz g off dLen dCap ad sLen sCap hd hs cur.toArray t hg cs hn hsrc (by simpa using hfit) h1 ?_
  exact h _ (by simpa [splice,Blk] using setRow_heap w g _ _ t _ hg) ⟨rfl,rfl,rfl,by simp,fun k _ hk=>setRow_other w g k _ (fun e=>hk (by simp [e]))⟩ (by simp)
theorem one_src {w:World} {a:Addr} {x:Value} (h:w.cell? a = some x):∀ j v,[x][j]? = some v -> w.cell? (a.add j) = some v:=by
 intro j v hj
 match j,hj with
 | 0,hj=>simp at hj;subst hj;rw [show a.add 0 = a by unfold Addr.add;simp];exact h
 | j + 1,hj=>simp at hj
theorem blk_src {w:World} {g e k:Nat} {cur cs:List Value} (h:Blk w g e cur) (hk:∀ j v,cs[j]? = some v -> cur[k + j]? = some v):∀ j v,cs[j]? = some v -> w.cell? ((⟨g,k,none⟩:Addr).add j) = some v:=by
 intro j v hj
 simp only [Addr.add_lit]
 exact h.cell (hk j v hj)
theorem step_of_list {P:Program} {ops:Array Oper} {o:Oper} {a:Act} {w:World} {K:Act -> World -> Prop} {Q:Exit -> Act -> World -> Prop} {E:Prop} (hgd:o.guard = none)
 (h:o.wp P a w K Q):if Region.wanted o (yielded ops a.tmps) = true then Oper.wp P o a w K Q else E:=by
 have hw:Region.wanted o (yielded ops a.tmps) = true:=by simp [Region.wanted,hgd]
 rw [if_pos hw]
 exact h
theorem step_copy_mine {P:Program} {w:World} {ops:Array Oper} {o:Oper} {a:Act} {K:Act -> World -> Prop} {Q:Exit -> Act -> World -> Prop} {E:Prop} (hgd:o.guard = none) {d s:Operand} {dT sT:TypeId}
 (ho:o.op = .call { callee:=.builtin .copy,args:=#[d,s],argTypes:=#[dT,sT] }) {e bytes:Nat} (hT:RowT P dT e 1 bytes)
 {g off dLen dCap sLen sCap:Nat} {ad:Addr} (hd:a.eval d = .slice (some ⟨g,off,none⟩) dLen dCap) (hs:a.eval s = .slice (some ad) sLen sCap)
 {cur:List Value} {t:Nat} (hg:Blk w g t cur) {cs:List Value} (hn:cs.length = Nat.min sLen dLen) (hsrc:∀ j v,cs[j]? = some v -> w.cell? (ad.add j) = some v)
 (hfit:off + cs.length <= cur.length) (h1:∀ v ∈ cs,v.oneCell' = true)
 (h:∀ w',Blk w' g t (splice cur off cs) -> Fr (· = g) w w' -> w'.heap.size = w.heap.size -> K (a.put o.dst (goInt cs.length)) w') :
 if Region.wanted o (yielded ops a.tmps) = true then Oper.wp P o a w K Q else E:=by
 refine step_of_list hgd ?_
 obtain ⟨⟨i,z,ht,hi,hz,hsize,hby,hzs⟩,hpos,hposb⟩:=hT
 have hsz:(P.info? e).map (·.size) = some 1:=by rw [hi];simp [hsize]
 by_cases h0:cs.length = 0
 ·obtain rfl:cs = []:=List.eq_nil_of_length_eq_zero h0
  have hrun:=run_copy_none (P:=P) w dT sT o.type e (some ⟨g,off,none⟩) (some ad) dLen dCap sLen sCap ht hsz (by simpa using hn.symm)
  unfold Oper.wp
  simp [execOp,ho,resolve,invoke,builtin,hd,hs,hrun,Result.andThen]
  exact h w (by simpa [splice] using hg) (Fr.refl _ _) rfl
 ·have hrun:=run_copy_row (P:=P) w dT sT o.type e g off dLen dCap ad sLen sCap cur.toArray t cs ht hsz hg hn hsrc (by simpa using hfit) h1
  unfold Oper.wp
  simp [execOp,ho,resolve,invoke,builtin,hd,hs,hrun,Result.andThen]
  exact h _ (by simpa [splice,Blk] using setRow_heap w g _ _ t _ hg) ⟨rfl,rfl,rfl,by simp,fun k _ hk=>setRow_other w g k _ (fun e=>hk (by simp [e]))⟩ (by simp)
theorem step_append_mine {P:Program} {w:World} {ops:Array Oper} {o:Oper} {a:Act} {K:Act -> World -> Prop} {Q:Exit -> Act -> World -> Prop} {E:Prop} (hgd:o.guard = none) {s x:Operand} {t e:TypeId} {size bytes:Nat}
 (ho:o.op = .call { callee:=.builtin .append,args:=#[s,x],argTypes:=#[t,t] }) (hT:RowT P t e size bytes) {v:Value} {n:Nat} {xs:List Value} (hs:a.eval s = v) (hown:w.ownsRow 0 e size v n xs)
 {src:Value} {m:Nat} {news:List Value} (hx:a.eval x = src) (hsrc:Srcs w src m size news) (hbytes:(n + m) * bytes <= 140737488355328)
 (h:∀ v' w',w'.ownsRow 0 e size v' (n + m) (xs ++ news) -> Fr (fun k=>v.ownBlock = some k) w w' -> (∀ k,v'.ownBlock = some k -> v.ownBlock = some k \/ w.heap.size <= k) -> (v' = .slice none 0 0 ↔ v = .slice none 0 0 /\ m = 0) ->
  K (a.put o.dst v') w'):if Region.wanted o (yielded ops a.tmps) = true then Oper.wp P o a w K Q else E:=by
 refine step_of_list hgd ?_
 obtain ⟨v',w',hr,h2,h3,h4,h5⟩:=run_append_mine (P:=P) (ty:=o.type) hT hown hsrc hbytes
 unfold Oper.wp execOp
 simp only [ho,resolve,invoke,builtin,Sem.run_bind,Sem.run_pure,Result.andThen_ok,List.map_toArray,List.map_cons,List.map_nil,hs,hx,hr]
 exact h v' w' h2 h3 h4 h5
def strOf (ns:List Int):ByteArray:=ns.foldl (fun r n=>r.push (UInt8.ofNat n.toNat)) ByteArray.empty
theorem wpList_bytes_string {P:Program} {w:World} {ops:Array Oper} {rest:List Oper} {o:Oper} {a:Act} {Q:Exit -> Act -> World -> Prop} (hgd:o.guard = none) {x:Operand} {src dst e:TypeId}
 (ho:o.op = .convert src dst x) (hs:P.underlying src = some (.slice e)) (he:P.underlying e = some (.int .u8)) (hd:P.underlying dst = some .string)
 {ad:Addr} {len cap:Nat} (hx:a.eval x = .slice (some ad) len cap) {ns:List Int} (hl:ns.length = len)
 (hc:∀ j v,(ns.map (Value.int .u8))[j]? = some v -> w.cell? (ad.add j) = some v)
 (h:wpList P ops Q rest (a.put o.dst (.string (strOf ns))) w):wpList P ops Q (o :: rest) a w:=by
 refine wpList_plain hgd fun K hK=>?_
 have hr:=run_loadCells_list (P:=P) (w:=w) ad (ns.map (Value.int .u8)) hc
 rw [List.length_map,hl] at hr
 have h1:=run_bytesToString (P:=P) w ad len cap ns hr
 have h2:=(run_convert_bytes_string (P:=P) w src dst e (some ad) len cap hs he hd).trans h1
 unfold Oper.wp
 simp only [execOp,ho,hx,Sem.run_bind,h2,Result.andThen]
 exact hK _ _ h
theorem bytes_beq (x y:ByteArray):(x.toList == y.toList) = decide (x = y):=by
 rw [ByteArray.toList_eq,ByteArray.toList_eq]
 by_cases h:x = y
 ·subst h;simp
 ·rw [decide_eq_false h,beq_eq_false_iff_ne]
  intro h2
  exact h (by cases x;cases y;simp at h2;simp [h2])
section
open Go.ChangeShapes Go.WideShapes Go.Deep Go.RowKit
section
variable {H:Type} {enc:TypeId × Value -> H} {P:Program} {w:World} {base:Nat} {spare:Nat -> Bool} {held:Bool}
end
section
variable {H:Type} {P:Program}
end
end
section
variable {P:Program} {w:World} {b e:Nat} {cs ds:List Value}
theorem Blk.row (h:Blk w b e cs) (ds:List Value):Blk (w.setRow b ds.toArray) b e ds:=setRow_heap w b _ _ _ _ h
theorem Fr.row {S:Nat -> Prop} {w0:World} (h:Fr S w0 w) (hb:S b \/ w0.heap.size <= b) (ds:List Value):Fr S w0 (w.setRow b ds.toArray) :=
 h.trans' (T:=fun k=>k = b) ⟨rfl,rfl,rfl,by simp,fun k _ hk=>setRow_other w b k _ hk⟩
  fun i hi e=>by subst e;rcases hb with hb | hb;exact hb;omega
theorem wpList_store_blk {ops:Array Oper} {rest:List Oper} {o:Oper} {a:Act} {Q:Exit -> Act -> World -> Prop} (hgd:o.guard = none) {ty:TypeId} {x y:Operand} (ho:o.op = .store ty x y)
 (hx:a.eval x = .pointer (some ⟨b,0,none⟩)) (hb:Blk w b e cs) (ds:List Value) (hy:a.eval y = .agg ds.toArray) (hi:(P.info? ty).map (·.size) = some ds.length)
 (hl:cs.length = ds.length) (h1:ds.toArray.all (·.oneCell') = true)
 (h:∀ w',Blk w' b e ds -> Fr (· = b) w w' -> w'.heap.size = w.heap.size -> wpList P ops Q rest (a.put o.dst undef) w'):wpList P ops Q (o :: rest) a w :=
 wpList_store_row hgd ty x y ho b ds.toArray hx hy e cs.toArray hb (by simpa using hi) (by simpa using hl) h1
  (h _ (hb.row ds) ((Fr.refl (· = b) w).row (b:=b) (.inl rfl) ds) (by simp))
theorem wpList_load_blk {ops:Array Oper} {rest:List Oper} {o:Oper} {a:Act} {Q:Exit -> Act -> World -> Prop} (hgd:o.guard = none) {ty:TypeId} {x:Operand} (ho:o.op = .load ty x)
 (hx:a.eval x = .pointer (some ⟨b,0,none⟩)) (hb:Blk w b e cs) {d:TypeDesc} (hu:P.underlying ty = some d) (hd:(match d with | .struct _ | .array _ _=>true | _=>false) = true) (hi:(P.info? ty).map (·.size) = some cs.length)
 (h:wpList P ops Q rest (a.put o.dst (.agg cs.toArray)) w):wpList P ops Q (o :: rest) a w :=
 wpList_load_row hgd ty x ho b hx e cs.toArray (0,0) d hb hu hd (by simpa using hi) h
theorem results_blk {fn:Func} {p:Tmp} {ty:TypeId} (h:fn.results = #[.cell p ty]) {tmps:Array Value} (hp:tmps.getD p undef = .pointer (some ⟨b,0,none⟩)) (hb:Blk w b e cs) {d:TypeDesc}
 (hu:P.underlying ty = some d) (hd:(match d with | .struct _ | .array _ _=>true | _=>false) = true) (hi:(P.info? ty).map (·.size) = some cs.length) :
 (results fn tmps).run P w = .ok (.agg cs.toArray) w :=
 results_cell_row h tmps w b e cs.toArray (0,0) d hp hb hu hd (by simpa using hi)
theorem results_blk_tmp {fn:Func} {p t:Tmp} {ty:TypeId} (h:fn.results = #[.cell p ty,.tmp t]) {tmps:Array Value} (hp:tmps.getD p undef = .pointer (some ⟨b,0,none⟩)) (hb:Blk w b e cs) {d:TypeDesc}
 (hu:P.underlying ty = some d) (hd:(match d with | .struct _ | .array _ _=>true | _=>false) = true) (hi:(P.info? ty).map (·.size) = some cs.length) :
 (results fn tmps).run P w = .ok (.tuple #[.agg cs.toArray,tmps.getD t undef]) w:=by
 have hp':tmps[p]?.getD undef = .pointer (some ⟨b,0,none⟩):=by simpa using hp
 simp [results,h,hp',asAddr,run_loadVar_row w b e ty cs.toArray (0,0) d hb hu hd (by simpa using hi)]
end
end Go.Proofs.YtngalllaiphkhaaGreatDoor
