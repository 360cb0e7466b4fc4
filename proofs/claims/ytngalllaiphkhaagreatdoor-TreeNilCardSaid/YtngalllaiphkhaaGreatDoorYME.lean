import Derived.Test.YtngalllaiphkhaaGreatDoorYMD
import Derived.RangeFuncNested
import Derived.RangeFuncLeaves
namespace Go.Proofs.YtngalllaiphkhaaGreatDoor
open Go.RowKit
abbrev Asr:=World -> (Nat -> Prop) -> Prop
def Loc (A:Asr):Prop:=∀ (w w':World) (S T:Nat -> Prop),A w S -> Fr T w w' -> (∀ k,S k -> ¬ T k) -> A w' S
def Emp:Asr:=fun _ _=>True
def Star (A B:Asr):Asr:=fun w U=>∃ S T,A w S /\ B w T /\ (∀ k,S k -> ¬ T k) /\ (∀ k,S k -> U k) /\ (∀ k,T k -> U k)
theorem loc_emp:Loc Emp:=fun _ _ _ _ _ _ _=>trivial
theorem loc_star {A B:Asr} (ha:Loc A) (hb:Loc B):Loc (Star A B):=by
 rintro w w' U T ⟨S1,S2,h1,h2,h3,h4,h5⟩ hf hT
 exact ⟨S1,S2,ha w w' S1 T h1 hf (fun k hk=>hT k (h4 k hk)),hb w w' S2 T h2 hf (fun k hk=>hT k (h5 k hk)),h3,h4,h5⟩
def Tri (P:Program) (f:FuncId) (args:Array Value) (w:World) (A:Asr) (Q:Ending -> Prop) (A':Asr):Prop :=
 ∀ S,A w S -> (∀ k,S k -> k < w.heap.size) -> Calls P f args w fun e w'=>Q e /\ A' w' (Plus S w w') /\ Fr S w w'
section
variable {P:Program} {f:FuncId} {args:Array Value} {w w' w0:World} {A A' B B' C:Asr} {Q:Ending -> Prop}
theorem Tri.left (hB:Loc B) (h:Tri P f args w A Q A'):Tri P f args w (Star A B) Q (Star A' B):=by
 rintro U ⟨S,T,h1,h2,h3,h4,h5⟩ hU
 refine (h S h1 (fun k hk=>hU k (h4 k hk))).mono ?_
 rintro e w1 ⟨hq,ha,hf⟩
 refine ⟨hq,⟨Plus S w w1,T,ha,hB w w1 T S h2 hf (fun k hk hs=>h3 k hs hk),?_,?_,fun k hk=>.inl (h5 k hk)⟩,hf.mono h4⟩
 ·rintro k (hk | ⟨hk,_⟩) ht
  ·exact h3 k hk ht
  ·have:=hU k (h5 k ht);omega
 ·rintro k (hk | hk)
  ·exact .inl (h4 k hk)
  ·exact .inr hk
theorem Tri.right (hA:Loc A) (h:Tri P f args w B Q B'):Tri P f args w (Star A B) Q (Star A B'):=by
 rintro U ⟨S,T,h1,h2,h3,h4,h5⟩ hU
 refine (h T h2 (fun k hk=>hU k (h5 k hk))).mono ?_
 rintro e w1 ⟨hq,ha,hf⟩
 refine ⟨hq,⟨S,Plus T w w1,hA w w1 S T h1 hf h3,ha,?_,fun k hk=>.inl (h4 k hk),?_⟩,hf.mono h5⟩
 ·rintro k hs (hk | ⟨hk,_⟩)
  ·exact h3 k hs hk
  ·have:=hU k (h4 k hs);omega
 ·rintro k (hk | hk)
  ·exact .inl (h5 k hk)
  ·exact .inr hk
def Live (w0:World) (A:Asr) (w:World):Prop:=∃ U,A w U /\ (∀ k,U k -> w0.heap.size <= k /\ k < w.heap.size) /\ Fr Nob w0 w
theorem Live.start (w:World):Live w Emp w:=⟨fun _=>False,trivial,fun _ h=>h.elim,Fr.refl _ _⟩
theorem Live.map (h:Live w0 A w) (hm:∀ U,A w U -> B w U):Live w0 B w:=by
 obtain ⟨U,h1,h2,h3⟩:=h
 exact ⟨U,hm U h1,h2,h3⟩
theorem star_swap {U:Nat -> Prop} (h:Star A B w U):Star B A w U:=by
 obtain ⟨S,T,h1,h2,h3,h4,h5⟩:=h
 exact ⟨T,S,h2,h1,fun k hk hs=>h3 k hs hk,h5,h4⟩
theorem star_assoc {U:Nat -> Prop} (h:Star (Star A B) C w U):Star A (Star B C) w U:=by
 obtain ⟨S,T,⟨S1,S2,a,b,d,e1,e2⟩,c,h3,h4,h5⟩:=h
 exact ⟨S1,fun k=>S2 k \/ T k,a,⟨S2,T,b,c,fun k hk=>h3 k (e2 k hk),fun k hk=>.inl hk,fun k hk=>.inr hk⟩,
  fun k hk ht=>ht.elim (d k hk) (h3 k (e1 k hk)),fun k hk=>h4 k (e1 k hk),fun k hk=>hk.elim (fun hk=>h4 k (e2 k hk)) (h5 k)⟩
theorem star_assoc' {U:Nat -> Prop} (h:Star A (Star B C) w U):Star (Star A B) C w U:=by
 obtain ⟨S,T,a,⟨S1,S2,b,c,d,e1,e2⟩,h3,h4,h5⟩:=h
 exact ⟨fun k=>S k \/ S1 k,S2,⟨S,S1,a,b,fun k hk hs=>h3 k hk (e1 k hs),fun k hk=>.inl hk,fun k hk=>.inr hk⟩,c,
  fun k hk ht=>hk.elim (fun hk=>h3 k hk (e2 k ht)) (fun hk=>d k hk ht),fun k hk=>hk.elim (h4 k) (fun hk=>h5 k (e1 k hk)),fun k hk=>h5 k (e2 k hk)⟩
theorem star_left {U:Nat -> Prop} (h:Star A B w U) (hm:∀ S,A w S -> C w S):Star C B w U:=by
 obtain ⟨S,T,h1,h2,h3⟩:=h
 exact ⟨S,T,hm S h1,h2,h3⟩
def Turn (w w':World) (A A':Asr):Prop:=∀ S,A w S -> A' w' (Plus S w w') /\ Fr S w w'
theorem Turn.left (hB:Loc B) (h:Turn w w' A A') (U:Nat -> Prop) (hU:∀ k,U k -> k < w.heap.size) (hs:Star A B w U):Star A' B w' (Plus U w w') /\ Fr U w w':=by
 obtain ⟨S,T,h1,h2,h3,h4,h5⟩:=hs
 obtain ⟨ha,hf⟩:=h S h1
 refine ⟨⟨Plus S w w',T,ha,hB w w' T S h2 hf (fun k hk hs=>h3 k hs hk),?_,?_,fun k hk=>.inl (h5 k hk)⟩,hf.mono h4⟩
 ·rintro k (hk | ⟨hk,_⟩) ht
  ·exact h3 k hk ht
  ·have:=hU k (h5 k ht);omega
 ·rintro k (hk | hk)
  ·exact .inl (h4 k hk)
  ·exact .inr hk
def rowA (e size:Nat) (v:Value) (n:Nat) (xs:List Value):Asr:=fun w S=>w.ownsRow 0 e size v n xs /\ ∀ k,v.ownBlock = some k -> S k
theorem loc_row (e size:Nat) (v:Value) (n:Nat) (xs:List Value):Loc (rowA e size v n xs) :=
 fun _ _ _ _ h hf hT=>⟨row_fr h.1 hf (fun k hk=>hT k (h.2 k hk)),h.2⟩
theorem turn_append {e size n m:Nat} {v v':Value} {xs news:List Value} (hown:w'.ownsRow 0 e size v' m news) (hf:Fr (fun k=>v.ownBlock = some k) w w')
 (hv:∀ k,v'.ownBlock = some k -> v.ownBlock = some k \/ w.heap.size <= k):Turn w w' (rowA e size v n xs) (rowA e size v' m news):=by
 intro S h
 refine ⟨⟨hown,fun k hk=>(hv k hk).imp (h.2 k) (fun h1=>⟨h1,(hown.lt k hk).2⟩)⟩,hf.mono h.2⟩
def blkA (b e:Nat) (cs:List Value):Asr:=fun w S=>Blk w b e cs /\ S b
theorem loc_blk (b e:Nat) (cs:List Value):Loc (blkA b e cs):=fun _ _ _ _ h hf hT=>⟨h.1.fr hf (hT _ h.2),h.2⟩
theorem turn_blk {b e:Nat} {cs:List Value} (j:Nat) (v:Value):Turn w (w.setCell ⟨b,j,none⟩ v) (blkA b e cs) (blkA b e (cs.set j v)) :=
 fun _ h=>⟨⟨h.1.set j v,.inl h.2⟩,Fr.setCell h.2 w j v⟩
end
def Lv (S0:Nat -> Prop) (w0:World) (A:Asr) (w:World):Prop:=∃ U,A w U /\ (∀ k,U k -> (S0 k \/ w0.heap.size <= k) /\ k < w.heap.size) /\ Fr S0 w0 w
section
variable {P:Program} {f:FuncId} {args:Array Value} {w w' w0:World} {A A' B B' C:Asr} {Q:Ending -> Prop} {S0:Nat -> Prop}
theorem Live.lv (h:Live w0 A w):Lv Nob w0 A w:=by
 obtain ⟨U,h1,h2,h3⟩:=h
 exact ⟨U,h1,fun k hk=>⟨.inr (h2 k hk).1,(h2 k hk).2⟩,h3⟩
theorem Lv.op (h:Lv S0 w0 A w) (ht:Tri P f args w A Q A'):Calls P f args w fun e w'=>Q e /\ Lv S0 w0 A' w':=by
 obtain ⟨U,h1,h2,h3⟩:=h
 refine (ht U h1 (fun k hk=>(h2 k hk).2)).mono ?_
 rintro e w1 ⟨hq,ha,hf⟩
 refine ⟨hq,_,ha,?_,h3.trans' hf (fun i hi hu=>by rcases (h2 i hu).1 with h | h;exact h;omega)⟩
 rintro k (hk | hk)
 ·exact ⟨(h2 k hk).1,Nat.lt_of_lt_of_le (h2 k hk).2 hf.size⟩
 ·exact ⟨.inr (Nat.le_trans h3.size hk.1),hk.2⟩
theorem Lv.keep (h:Lv S0 w0 A w) (hA:Loc A) (hf:Fr Nob w w'):Lv S0 w0 A w':=by
 obtain ⟨U,h1,h2,h3⟩:=h
 exact ⟨U,hA w w' U Nob h1 hf (fun _ _ h=>h),fun k hk=>⟨(h2 k hk).1,Nat.lt_of_lt_of_le (h2 k hk).2 hf.size⟩,h3.trans' hf (fun _ _ h=>h.elim)⟩
theorem Lv.new (h:Lv S0 w0 A w) (hA:Loc A) (hf:Fr Nob w w') (hb:B w' (Plus Nob w w')):Lv S0 w0 (Star B A) w':=by
 obtain ⟨U,h1,h2,h3⟩:=h
 refine ⟨fun k=>Plus Nob w w' k \/ U k,⟨Plus Nob w w',U,hb,hA w w' U Nob h1 hf (fun _ _ h=>h),?_,fun k hk=>.inl hk,fun k hk=>.inr hk⟩,?_,h3.trans' hf (fun _ _ h=>h.elim)⟩
 ·rintro k (hk | hk) hu
  ·exact hk
  ·have:=(h2 k hu).2;omega
 ·rintro k ((hk | hk) | hk)
  ·exact hk.elim
  ·exact ⟨.inr (Nat.le_trans h3.size hk.1),hk.2⟩
  ·exact ⟨(h2 k hk).1,Nat.lt_of_lt_of_le (h2 k hk).2 hf.size⟩
theorem Lv.map (h:Lv S0 w0 A w) (hm:∀ U,A w U -> B w U):Lv S0 w0 B w:=by
 obtain ⟨U,h1,h2,h3⟩:=h
 exact ⟨U,hm U h1,h2,h3⟩
theorem Lv.fr (h:Lv S0 w0 A w):Fr S0 w0 w:=h.elim fun _ h=>h.2.2
theorem Lv.alloc (h:Lv S0 w0 A w) (hA:Loc A) (o:Obj):Lv S0 w0 A (w.alloc o):=h.keep hA ((Fr.refl _ _).alloc o)
theorem Lv.drew (h:Lv S0 w0 A w) (hA:Loc A):Lv S0 w0 A w.drew:=h.keep hA (Fr.refl _ _).drew
theorem Lv.first (h:Lv S0 w0 (Star A B) w):∃ S,A w S:=by
 obtain ⟨U,⟨S,T,h1,_⟩,_⟩:=h
 exact ⟨S,h1⟩
theorem Lv.second (h:Lv S0 w0 (Star A B) w):∃ S,B w S:=by
 obtain ⟨U,⟨S,T,_,h1,_⟩,_⟩:=h
 exact ⟨T,h1⟩
theorem Lv.calls (h:Lv S0 w0 A w) (hA:Loc A) (hc:Calls P f args w fun e w'=>Q e /\ Fr Nob w w') :
 Calls P f args w fun e w'=>Q e /\ Lv S0 w0 A w':=hc.mono fun _ _ ⟨he,hf⟩=>⟨he,h.keep hA hf⟩
theorem Lv.turn (h:Lv S0 w0 (Star A B) w) (hB:Loc B) (ht:Turn w w' A A'):Lv S0 w0 (Star A' B) w':=by
 obtain ⟨U,h1,h2,h3⟩:=h
 obtain ⟨h4,h5⟩:=ht.left hB U (fun k hk=>(h2 k hk).2) h1
 refine ⟨_,h4,?_,h3.trans' h5 (fun i hi hu=>by rcases (h2 i hu).1 with h | h;exact h;omega)⟩
 rintro k (hk | hk)
 ·exact ⟨(h2 k hk).1,Nat.lt_of_lt_of_le (h2 k hk).2 h5.size⟩
 ·exact ⟨.inr (Nat.le_trans h3.size hk.1),hk.2⟩
theorem Lv.assoc (h:Lv S0 w0 (Star (Star A B) C) w):Lv S0 w0 (Star A (Star B C)) w:=h.map fun _=>star_assoc
theorem Lv.assoc' (h:Lv S0 w0 (Star A (Star B C)) w):Lv S0 w0 (Star (Star A B) C) w:=h.map fun _=>star_assoc'
theorem Lv.box (h:Lv S0 w0 A w) (hA:Loc A) (e:Nat) (cs:List Value):Lv S0 w0 (Star (blkA w.heap.size e cs) A) (w.alloc (.cells cs.toArray e)) :=
 h.new hA ((Fr.refl _ _).alloc _) ⟨Blk.new w e cs,.inr ⟨Nat.le_refl _,by simp⟩⟩
theorem Lv.drop (h:Lv S0 w0 (Star A B) w):Lv S0 w0 B w:=by
 obtain ⟨U,⟨S,T,_,h1,_,_,h5⟩,h2,h3⟩:=h
 exact ⟨T,h1,fun k hk=>h2 k (h5 k hk),h3⟩
theorem star_right {U:Nat -> Prop} (h:Star A B w U) (hm:∀ S,B w S -> C w S):Star A C w U:=by
 obtain ⟨S,T,h1,h2,h3⟩:=h
 exact ⟨S,T,h1,hm T h2,h3⟩
theorem star_flip {U:Nat -> Prop} (h:Star A (Star B C) w U):Star B (Star A C) w U :=
 star_assoc (star_left (star_assoc' h) fun _ h=>star_swap h)
theorem star_less {U:Nat -> Prop} (h:Star A (Star B C) w U):Star A C w U:=by
 obtain ⟨S,T,h1,⟨S',T',_,h2,_,_,e3⟩,h3,h4,h5⟩:=h
 exact ⟨S,T',h1,h2,fun k hk ht=>h3 k hk (e3 k ht),h4,fun k hk=>h5 k (e3 k hk)⟩
end
def recA (l:Nat) (r:Loop):Asr:=fun w S=>w.heap[l]? = some (.loop r) /\ S l
def defA (D:Nat):Asr:=fun w S=>w.heap[D]? = some (.deferred (some [])) /\ S D
theorem lt_heap {w:World} {l:Nat} {o:Obj} (h:w.heap[l]? = some o):l < w.heap.size:=(Array.getElem?_eq_some_iff.1 h).1
theorem loc_rec (l:Nat) (r:Loop):Loc (recA l r):=fun _ _ _ _ h hf hT=>⟨(hf.block l (lt_heap h.1) (hT l h.2)).trans h.1,h.2⟩
theorem loc_def (D:Nat):Loc (defA D):=fun _ _ _ _ h hf hT=>⟨(hf.block D (lt_heap h.1) (hT D h.2)).trans h.1,h.2⟩
theorem turn_rec {l:Nat} {r:Loop} (r':Loop) {w:World}:Turn w (w.putObj l (.loop r')) (recA l r) (recA l r'):=fun _ h =>
 ⟨⟨World.putObj_heap_same (lt_heap h.1),.inl h.2⟩,(Fr.refl _ _).grown (grownBy_putObj' w l _) (fun k e=>by cases e;exact .inl h.2)⟩
def Leaves:Exit -> Code -> Prop
 | .ret,c=>c = .ret
 | .exit id,c=>c = .exit id
 | .goto t,c=>c = .goto t
 | _,_=>False
section
variable {S0:Nat -> Prop} {w0 w:World} {A:Asr}
theorem Lv.rec_at {l:Nat} {r:Loop} {D:Asr} (h:Lv S0 w0 (Star (Star (recA l r) D) A) w):w.heap[l]? = some (.loop r):=by
 obtain ⟨U,⟨S,T,⟨_,_,h1,_⟩,_⟩,_⟩:=h
 exact h1.1
theorem Lv.rec_put {l:Nat} {r:Loop} {D:Asr} (r':Loop) (h:Lv S0 w0 (Star (Star (recA l r) D) A) w) (hD:Loc D) (hA:Loc A):Lv S0 w0 (Star (Star (recA l r') D) A) (w.putObj l (.loop r')) :=
 (h.assoc.turn (loc_star hD hA) (turn_rec r')).assoc'
theorem wpIn_range_lv {F:Fence} {n:Nat} {P:Program} {g:Operand} {ps:Array Tmp} {assign body:Code} {Q:Exit -> Act -> World -> Prop} {a:Act}
 (hro:F.round = none) (h1:1 <= n) {gf:Nat} {lb:Array Value} (hg:a.eval g = .func (.func gf) #[] lb) (hFg:F.fn gf) (eg:∀ args w,(callFunc gf args).run P w = .ok (.enter gf args) w)
 (A:Nat -> Asr) (Ax:Code -> Nat -> Asr) (hA:∀ k,Loc (A k)) (hAx:∀ c k,Loc (Ax c k)) (N:Nat) (encs:Nat -> Array Value) (hps:∀ k,(encs k).size = ps.size) (a₁:Nat -> Act)
 (h0:Lv S0 w0 (A 0) w)
 (hseq:∀ (l:Nat) (R:Asr) (St:Nat -> World -> Prop) (W:World),Loc R ->
  (∀ k W1,k < N -> Lv S0 w0 (Star R (A k)) W1 -> YieldAt F (n - 1 - 1) P l (encs k) W1 fun e W' =>
   (e = .returned (.bool true) /\ Lv S0 w0 (Star R (A (k + 1))) W') \/ (e = .returned (.bool false) /\ St k W')) ->
  Lv S0 w0 (Star R (A 0)) W ->
  CallsIn F (n - 1) P gf (#[.func (.yield l) #[] #[]] ++ lb) W fun e W'=>(∃ v,e = .returned v) /\ (Lv S0 w0 (Star R (A N)) W' \/ ∃ k,k < N /\ St k W'))
 (hassign:∀ (l k:Nat) (W:World) (K:Act -> World -> Prop),K (a₁ k) W ->
  assign.wpIn (F.inRound l) (n - 1 - 1) P (Exit.then K (fun _ _ _=>False)) { tmps:=(ps.zip (encs k)).foldl (fun t (p,v)=>t.setIfInBounds p v) a.tmps,defers:=[] } W)
 (hbody:∀ (l:Nat) (R:Asr) (k:Nat) (W:World),Loc R -> k < N -> Lv S0 w0 (Star R (A k)) W ->
  body.wpIn (F.inRound l) (n - 1 - 1) P (fun e _ W'=>(e = .normal /\ Lv S0 w0 (Star R (A (k + 1))) W') \/ ∃ c,Leaves e c /\ Lv S0 w0 (Star R (Ax c k)) W') (a₁ k) W)
 (hdone:∀ (D:Nat) (W:World),Lv S0 w0 (Star (defA D) (A N)) W -> Q .normal { a with defers:={ target:=.collected D,args:=#[] } :: a.defers } W)
 (hstop:∀ (D:Nat) (c:Code) (k:Nat) (W:World),k < N -> Lv S0 w0 (Star (defA D) (Ax c k)) W -> c.wpIn F n P Q { a with defers:={ target:=.collected D,args:=#[] } :: a.defers } W) :
 (Code.rangeFunc g ps assign body).wpIn F n P Q a w:=by
 refine wpIn_rangeFunc ?_
 intro fn hfn
 rw [hro]
 obtain ⟨rec,hrec⟩:∃ rec:LoopState -> Option Code -> Loop,rec = fun st pe=>{ state:=st,pending:=pe,fn,tmps:=a.tmps,params:=ps,assign,body,defers:=w.heap.size }:=⟨_,rfl⟩
 obtain ⟨W1,hW1⟩:∃ W1,(w.alloc (.deferred (some []))).alloc (.loop (rec .ready none)) = W1:=⟨_,rfl⟩
 have hB:∀ st pe,Loc (Star (recA (w.heap.size + 1) (rec st pe)) (defA w.heap.size)):=fun _ _=>loc_star (loc_rec _ _) (loc_def _)
 have hS:Lv S0 w0 (Star (Star (recA (w.heap.size + 1) (rec .ready none)) (defA w.heap.size)) (A 0)) W1:=by
  have s1:=h0.new (B:=defA w.heap.size) (hA 0) ((Fr.refl _ _).alloc (.deferred (some []))) ⟨World.alloc_heap_new w _,.inr ⟨Nat.le_refl _,by simp⟩⟩
  have s2:=s1.new (B:=recA (w.heap.size + 1) (rec .ready none)) (loc_star (loc_def _) (hA 0)) ((Fr.refl _ _).alloc (.loop (rec .ready none)))
   ⟨by have:=World.alloc_heap_new (w.alloc (.deferred (some []))) (.loop (rec .ready none));rwa [World.size_alloc] at this,.inr ⟨by simp,by simp⟩⟩
  rw [hW1] at s2
  exact s2.assoc'
 refine ⟨w.heap.size + 1,[{ target:=.collected w.heap.size,args:=#[] }],W1,{ target:=.fn (.func gf) lb,args:=#[.func (.yield (w.heap.size + 1)) #[] #[]] },W1,gf,
  #[.func (.yield (w.heap.size + 1)) #[] #[]] ++ lb,W1,?_,?_,?_,?_,fun _=>h1,?_⟩
 ·rw [<- hW1,hrec];exact run_enterLoop_outer _ _ _ _ _
 ·simp only [resolve,hg]
  simp [go_sem]
 ·intro f' hf';simp [Target.leads] at hf';subst hf';exact hFg
 ·simp [invoke,go_sem,eg]
 ·refine (hseq (w.heap.size + 1) (Star (recA (w.heap.size + 1) (rec .ready none)) (defA w.heap.size))
   (fun k W=>∃ c,Lv S0 w0 (Star (Star (recA (w.heap.size + 1) (rec .done (some c))) (defA w.heap.size)) (Ax c k)) W) W1 (hB _ _) ?_ hS).mono ?_
  ·intro k W hk hl
   have hy:=run_yield (P:=P) (args:=encs k) hl.rec_at (by rw [hrec];exact hps k)
   rw [hrec] at hy
   refine ⟨fn,_,assign,body,hy,roundIn_of_wpIn hfn (hassign _ k W _ ?_)⟩
   clear hy
   refine ⟨_,run_beginRound hl.rec_at (by rw [hrec]),?_⟩
   have e0:({ rec .ready none with state:=.busy }:Loop) = rec .busy none:=by rw [hrec]
   rw [e0]
   have hl2:=hl.rec_put (rec .busy none) (loc_def _) (hA k)
   refine wpIn_mono (hbody _ _ k _ (hB .busy none) hk hl2) ?_
   have fin:∀ (jump:Option Code) (W3:World) (B:Asr),Loc B -> Lv S0 w0 (Star (Star (recA (w.heap.size + 1) (rec .busy none)) (defA w.heap.size)) B) W3 ->
    (Instr.endRound (w.heap.size + 1) jump).run P W3 = .ok (.bool jump.isNone) (W3.putObj (w.heap.size + 1) (.loop (rec (if jump.isNone then .ready else .done) jump))) /\
    Lv S0 w0 (Star (Star (recA (w.heap.size + 1) (rec (if jump.isNone then .ready else .done) jump)) (defA w.heap.size)) B) (W3.putObj (w.heap.size + 1) (.loop (rec (if jump.isNone then .ready else .done) jump))):=by
    intro jump W3 B hBl h3
    have:=run_endRound (P:=P) jump h3.rec_at
    refine ⟨?_,h3.rec_put _ (loc_def _) hBl⟩
    rw [this]
    rw [hrec]
   rintro e a3 W3 (⟨rfl,h3⟩ | ⟨c,hc,h3⟩)
   ·obtain ⟨hr,h4⟩:=fin none W3 _ (hA _) h3
    exact ⟨_,_,hr,.inl ⟨rfl,h4⟩⟩
   ·obtain ⟨hr,h4⟩:=fin (some c) W3 _ (hAx _ _) h3
    cases e with
    | ret=>obtain rfl:c = .ret:=hc;exact ⟨_,_,hr,.inr ⟨rfl,_,h4⟩⟩
    | exit id=>obtain rfl:c = .exit id:=hc;exact ⟨_,_,hr,.inr ⟨rfl,_,h4⟩⟩
    | goto t=>obtain rfl:c = .goto t:=hc;exact ⟨_,_,hr,.inr ⟨rfl,_,h4⟩⟩
    | normal=>exact hc.elim
    | panic ch=>exact hc.elim
    | outgrown=>exact hc.elim
  ·rintro e W2 ⟨⟨v,rfl⟩,h2 | ⟨k,hk,c,h2⟩⟩
   ·have hE:=run_endLoop (P:=P) h2.rec_at (by rw [hrec];simp)
    refine ⟨none,W2.putObj (w.heap.size + 1) (.loop (rec .exhausted none)),by rw [hE];simp only [hrec],?_⟩
    exact hdone _ _ (h2.rec_put (rec .exhausted none) (loc_def _) (hA _)).assoc.drop
   ·have hE:=run_endLoop (P:=P) h2.rec_at (by rw [hrec];simp)
    refine ⟨some c,W2.putObj (w.heap.size + 1) (.loop (rec .exhausted (some c))),by rw [hE];simp only [hrec],?_⟩
    exact hstop _ c k _ hk (h2.rec_put (rec .exhausted (some c)) (loc_def _) (hAx _ _)).assoc.drop
end
def dskA (K:Kd) (b:Nat) (D:DSt):Asr:=fun w S=>IsDsk K w b S D
theorem loc_dsk (K:Kd) (b:Nat) (D:DSt):Loc (dskA K b D):=fun _ _ _ _ h hf hT=>IsDsk.fr h hf hT
theorem d_write {b:Nat} {D:DSt} {w:World} (i:Int) (s:ByteArray) (hl:(D.wait.length + 1) * 24 <= 140737488355328) :
 Tri Tryz.prog 35 #[.pointer (some ⟨b,0,none⟩),.int .i64 i,.string s] w (dskA kD b D) (fun e=>e = .returned (.int .i64 (D.writeE i s))) (dskA kD b (D.write i s)):=by
 intro S h _
 unfold DSt.writeE DSt.write
 by_cases h1:D.off = true
 ·rw [if_pos h1,if_pos h1]
  exact (write_off h h1 i s).mono fun e w' ⟨he,hw⟩=>⟨he,by subst hw;exact h.mono (fun _ h=>.inl h),by subst hw;exact Fr.refl _ _⟩
 ·have h1':D.off = false:=by simpa using h1
  rw [if_neg h1,if_neg h1]
  by_cases h2:(i < 0 \/ (D.safe.length:Int) <= i) \/ s.size ≠ 64
  ·rw [if_pos h2,if_pos h2]
   exact (write_arg h h1' i s h2).mono fun e w' ⟨he,hw⟩=>⟨he,by subst hw;exact h.mono (fun _ h=>.inl h),by subst hw;exact Fr.refl _ _⟩
  ·rw [if_neg h2,if_neg h2]
   have h3:0 <= i:=by omega
   have h4:i < D.safe.length:=by omega
   have h5:s.size = 64:=by omega
   by_cases h6:D.power = 0
   ·rw [if_pos h6,if_pos h6]
    exact (write_dead h h1' i s h3 h4 h5 h6).mono fun e w' ⟨he,hd,hf⟩=>⟨he,hd.mono (fun _ h=>.inl h),hf⟩
   ·rw [if_neg h6,if_neg h6]
    obtain ⟨j,rfl⟩:=Int.eq_ofNat_of_zero_le h3
    rw [Int.toNat_natCast]
    exact write_ok h h1' j s (by omega) h5 h6 hl
theorem d_flush {b:Nat} {D:DSt} {w:World} (hl:D.wait.length * 24 <= 140737488355328) :
 Tri Tryz.prog 196 #[.pointer (some ⟨b,0,none⟩)] w (dskA kD b D) (fun e=>e = .returned (.int .i64 D.flushE)) (dskA kD b D.flush):=by
 intro S h _
 unfold DSt.flushE DSt.flush
 by_cases h1:D.off = true
 ·rw [if_pos h1,if_pos h1]
  exact (flush_off h h1).mono fun e w' ⟨he,hw⟩=>⟨he,by subst hw;exact h.mono (fun _ h=>.inl h),by subst hw;exact Fr.refl _ _⟩
 ·have h1':D.off = false:=by simpa using h1
  rw [if_neg h1,if_neg h1]
  by_cases h6:D.power = 0
  ·rw [if_pos h6,if_pos h6]
   exact (flush_dead h h1' h6).mono fun e w' ⟨he,hd,hf⟩=>⟨he,hd.mono (fun _ h=>.inl h),hf⟩
  ·rw [if_neg h6,if_neg h6]
   exact (flush_ok h h1' h6 hl).mono fun e w' ⟨he,hd,hf⟩=>⟨he,hd.mono (fun _ h=>.inl h),hf⟩
end Go.Proofs.YtngalllaiphkhaaGreatDoor
