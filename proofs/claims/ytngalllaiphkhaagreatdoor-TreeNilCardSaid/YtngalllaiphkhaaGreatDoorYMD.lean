import Derived.Test.YtngalllaiphkhaaGreatDoorYMC
import Derived.Test.YtngalllaiphkhaaGreatDoorShelf
namespace Go.Proofs.YtngalllaiphkhaaGreatDoor
open Go.RowKit
open Go.Lib (hid)
set_option maxRecDepth 100000
set_option maxHeartbeats 16000000
theorem splice_rep {α:Type} (x z:α) (m n k:Nat):splice (List.replicate m x ++ List.replicate (n - m) z) m (List.replicate k x) = List.replicate (m + k) x ++ List.replicate (n - (m + k)) z:=by
 unfold splice
 rw [List.take_append_of_le_length (by simp),List.take_of_length_le (by simp),List.drop_append,List.drop_eq_nil_of_le (by simp),List.nil_append,<- List.append_assoc,List.replicate_append_replicate]
 simp
 omega
theorem repeat_one {g c n:Nat} {x:ByteArray} {w:World} (hx:w.cell? ⟨g,0,none⟩ = some (.string x)) (hn1:1 <= n) (hn:n <= 1000000) :
 Calls Tryz.prog 76 #[.slice (some ⟨g,0,none⟩) 1 c,.int .i64 n] w fun e w' =>
  ∃ bs,e = .returned (.slice (some ⟨bs,0,none⟩) n n) /\ Blk w' bs tStr (List.replicate n (.string x)) /\ w.heap.size <= bs /\ Fr Nob w w':=by
 have hm:(n:Int).toNat = n:=by omega
 have HM:=hid (Tryz.bits_Mul 1 n (by omega) (by omega) w)
 rw [show 1 * n / 18446744073709551616 = 0 by omega,show 1 * n % 18446744073709551616 = n by omega] at HM
 have hmin:([Value.string x]:List Value).length = Nat.min 1 n:=by show 1 = min 1 n;omega
 go_enter Tryz.func76,Tryz.ntmps76
 go_wp2_with fail
 refine HM.out.mono ?_
 rintro e w1 ⟨rfl,rfl⟩
 go_wp2_with (first | (at_make;refine wpList_make_mine (n:=n) (l:=.tmp 29) (c:=.tmp 29) rfl rfl Tryz.underlying43 Tryz.infoStr rfl rfl rfl (by omega) (by omega) ?_;intro w2 hb2 hf2 hs2;have c2:=(hf2.block g (World.block_lt_of_cell? _ _ hx) (fun h=>h));have c3:=(World.cell?_of_block (w:=w1) (w':=w2) (a:=⟨g,0,none⟩) c2).trans hx) | (with_reducible show wpList _ _ _ _ _ _;refine wpList_copy_mine (d:=.tmp 31) (s:=.tmp 32) rfl rfl Tryz.rowStr rfl rfl hb2 (cs:=[.string x]) hmin (one_src c3) (by simp;omega) (by simp [Value.oneCell']) ?_;intro w3 hb3 hf3 hs3))
 rw [show splice (List.replicate n (Value.string ByteArray.empty)) 0 [Value.string x] = List.replicate 1 (Value.string x) ++ List.replicate (n - 1) (Value.string ByteArray.empty) by simp [splice,List.drop_replicate]] at hb3
 have HB:=hid hb3
 have HF:Hid (Fr Nob w1 w3):=hf2.trans' hf3 (fun i hi e=>by subst e;omega)
 clear hb2 hb3 hf2 hf3 c2 c3 hx hmin hm
 have h2:w1.heap.size < w3.heap.size:=by omega
 clear hs2 hs3
 go_loopw [8] (fun i wr=>∃ m:Nat,1 <= m /\ m <= n /\ i = .int .i64 m /\ Blk wr w1.heap.size tStr (List.replicate m (.string x) ++ List.replicate (n - m) (.string ByteArray.empty)) /\ Fr Nob w1 wr) (fun i _=>n - (intOf i).toNat)
 case atStart=>exact ⟨1,Nat.le_refl _,hn1,rfl,HB.out,HF.out⟩
 case round =>
  obtain ⟨m,hm1,hm2,rfl,hb,hf⟩:=hrel
  have HF1:=hid hf
  clear hf
  by_cases hlt:m < n
  ·have hb1:=hb.drew
   have e1:(List.replicate (min m (n - m)) (Value.string x)).length = Nat.min m (n - m):=by simp
   have e2:=blk_src (k:=0) (cs:=List.replicate (min m (n - m)) (Value.string x)) hb1 (by
    intro j v hj
    rw [List.getElem?_replicate] at hj
    split at hj
    ·rename_i h
     rw [Nat.zero_add,List.getElem?_append_left (by simp;omega),List.getElem?_replicate,if_pos (by omega)]
     exact hj
    ·cases hj)
   have e3:m + (List.replicate (min m (n - m)) (Value.string x)).length <= (List.replicate m (Value.string x) ++ List.replicate (n - m) (Value.string ByteArray.empty)).length:=by simp;omega
   have e4:∀ v ∈ List.replicate (min m (n - m)) (Value.string x),v.oneCell' = true:=by
    intro v hv;rw [List.eq_of_mem_replicate hv];rfl
   have E1:=hid e1
   have E2:=hid e2
   have E3:=hid e3
   have E4:=hid e4
   have HB1:=hid hb1
   clear hb hb1 e1 e2 e3 e4
   go_wp2_with fail
   go_region_law (refine step_copy_mine (d:=.tmp 41) (s:=.tmp 44) (g:=w1.heap.size) (off:=m) (dLen:=n - m) (dCap:=n - m) (ad:=⟨w1.heap.size,0,none⟩) (sLen:=m) (sCap:=n) rfl rfl Tryz.rowStr (by simp [Act.eval,Act.put];omega) (by simp [Act.eval,Act.put]) HB1.out E1.out E2.out E3.out E4.out ?_;intro w4 hb4 hf4 hs4)
   have hwr:IntKind.i64.wrap ((m:Int) + ((min m (n - m):Nat):Int)) = ((m + min m (n - m):Nat):Int):=by rw [IntWalk.i64_in _ (by omega)];omega
   have HW:=hid hwr
   clear hwr
   go_wp2_with fail
   have hwr:=HW.out
   go_roundw
   case rel =>
    rw [splice_rep] at hb4
    refine ⟨m + min m (n - m),by omega,by omega,?_,hb4,?_⟩
    ·exact hwr
    ·exact HF1.out.drew.trans' hf4 (fun i hi e=>by subst e;omega)
   case measure =>
    show n - (IntKind.i64.wrap ((m:Int) + ((min m (n - m):Nat):Int))).toNat < _
    rw [hwr];simp [intOf];omega
  ·obtain rfl:m = n:=by omega
   have HB1:=hid hb
   clear hb
   go_wp2_with fail
   go_ret
   exact ⟨_,rfl,by simpa using HB1.out,Nat.le_refl _,HF1.out⟩
def nought:ByteArray:=⟨(Lib.repeatL [0] 64).toArray⟩
theorem nought_size:nought.size = 64:=by decide +kernel
def DSt.fresh (n:Nat):DSt:={ safe:=List.replicate n nought,wait:=[],power:=-1,off:=false }
theorem new_ok (n:Nat) (w:World) (h1:48 <= n) (h2:n <= 544) :
 Calls Tryz.prog 34 #[.int .i64 n] w fun e w'=>∃ b,e = .returned (.tuple #[.pointer (some ⟨b,0,none⟩),.int .i64 0]) /\ IsDisk w' b (Plus Nob w w') (DSt.fresh n) /\ Fr Nob w w':=by
 have HR:Hid (Calls Tryz.prog 58 #[.string ⟨#[0]⟩,.int .i64 64] w fun e w'=>e = .returned (.string nought) /\ Below w.heap.size w w') :=
  hid (Tryz.strings_Repeat (⟨#[0]⟩:ByteArray) 64 w (by omega) (by decide))
 go_enter Tryz.func34,Tryz.ntmps34
 go_wp2_with fail
 refine HR.out.mono ?_
 rintro e w1 ⟨rfl,hb⟩
 have HF1:Hid (Fr Nob w w1):=Fr.of_below hb (fun _ h _=>h)
 clear hb
 go_wp2_with fail
 refine (repeat_one (x:=nought) (World.cell?_alloc_new _ _ _ _) (by omega) (by omega)).mono ?_
 rintro e w2 ⟨bs,rfl,hb2,hbs,hf2⟩
 have HB2:=hid hb2
 have HF2:Hid (Fr Nob w w2):=(HF1.out.alloc _).trans hf2
 have HS:Hid (w.heap.size <= bs):=by have:=HF1.out.size;simp at hbs;show _ <= _;omega
 clear hb2 hf2 hbs
 go_wp2_with fail
 go_ret2
 have hb:=HB2.out
 have hlt:=hb.lt
 refine ⟨_,rfl,⟨bs,n,[],.slice none 0 0,?_,?_,World.ownsRow_nil _ _ _ _,?_,?_,fun k hk=>(by cases hk),?_⟩,HF2.out.alloc _⟩
 ·rw [show (DSt.fresh n).safe.length = n by simp [DSt.fresh]]
  exact Blk.new _ _ [_,_,_,_]
 ·have:=hb.alloc (.cells #[.slice (some ⟨bs,0,none⟩) n n,.slice none 0 0,.int .i64 (-1),.bool false] tDisk)
  simpa [strs,DSt.fresh] using this
 ·exact .inr ⟨HF2.out.size,by simp⟩
 ·exact .inr ⟨HS.out,by simp;omega⟩
 ·refine ⟨by simp [DSt.fresh];omega,by simp [DSt.fresh];omega,by simp [DSt.fresh],?_,by simp [DSt.fresh],by simp [DSt.fresh],by simp [DSt.fresh]⟩
  intro s hs
  rw [List.eq_of_mem_replicate hs];exact nought_size
section
open Go.RowKit Go.Shelf
attribute [local go_sem] Oper.semAt_some
theorem read_off {b:Nat} {S:Nat -> Prop} {D:DSt} {w:World} (h:IsDisk w b S D) (h0:D.off = true) (i:Int) :
 Calls Tryz.prog 119 #[.pointer (some ⟨b,0,none⟩),.int .i64 i] w fun e w'=>e = .returned (.tuple #[.string ⟨#[]⟩,.int .i64 7]) /\ Fr Nob w w':=by
 obtain ⟨bs,cs,sp,wv,h⟩:=h
 have c3:w.cell? ⟨b,3,none⟩ = some (.bool true):=by rw [h.head.cell rfl,h0]
 have hl:=h.head.lt
 have hl1:b < w.heap.size + 1:=by omega
 have hl2:b < w.heap.size + 1 + 1:=by omega
 have hl3:b < w.heap.size + 1 + 1 + 1:=by omega
 clear h h0
 go_enter Tryz.func119,Tryz.ntmps119
 go_wp2
 refine bodyPost_ret (v:=.tuple #[.string ⟨#[]⟩,.int .i64 7]) (by simp [results,Tryz.results119,go_sem]) rfl ⟨rfl,?_⟩
 exact (((Fr.refl _ _).alloc _).alloc _).alloc _
theorem read_arg {b:Nat} {S:Nat -> Prop} {D:DSt} {w:World} (h:IsDisk w b S D) (h0:D.off = false) (i:Int) (hi:i < 0 \/ (D.safe.length:Int) <= i) :
 Calls Tryz.prog 119 #[.pointer (some ⟨b,0,none⟩),.int .i64 i] w fun e w'=>e = .returned (.tuple #[.string ⟨#[]⟩,.int .i64 1]) /\ Fr Nob w w':=by
 obtain ⟨bs,cs,sp,wv,h⟩:=h
 have c3:w.cell? ⟨b,3,none⟩ = some (.bool false):=by rw [h.head.cell rfl,h0]
 have c0:=h.head.cell (j:=0) rfl
 have hl:=h.head.lt
 have hl1:b < w.heap.size + 1:=by omega
 have hl2:b < w.heap.size + 1 + 1:=by omega
 have hl3:b < w.heap.size + 1 + 1 + 1:=by omega
 clear h h0
 generalize D.safe.length = n at *
 by_cases h2:i < 0
 ·have hd:decide (i < 0) = true:=by simpa using h2
  go_enter Tryz.func119,Tryz.ntmps119
  go_wp2
  go_quiet (fail)
  go_wp2
  refine bodyPost_ret (v:=.tuple #[.string ⟨#[]⟩,.int .i64 1]) (by simp [results,Tryz.results119,go_sem]) rfl ⟨rfl,?_⟩
  exact ((((((Fr.refl _ _).alloc _).alloc _).alloc _).drewN _).set (.inr (by omega)) _ _).set (.inr (by omega)) _ _
 ·have hd:decide (i < 0) = false:=by simpa using h2
  have hi2:(n:Int) <= i:=by omega
  go_enter Tryz.func119,Tryz.ntmps119
  go_wp2
  go_quiet (fail)
  go_wp2
  refine bodyPost_ret (v:=.tuple #[.string ⟨#[]⟩,.int .i64 1]) (by simp [results,Tryz.results119,go_sem]) rfl ⟨rfl,?_⟩
  exact ((((((Fr.refl _ _).alloc _).alloc _).alloc _).drewN _).set (.inr (by omega)) _ _).set (.inr (by omega)) _ _
theorem box_kept {W W':World} {row:Option Nat} {B:Nat} {cz:Array Value} {t:TypeId} (h:W.heap[B]? = some (.cells cz t (0,0))) (hg:W.grownBy W' row)
 (hr:∀ r,row = some r -> ∃ o:Obj,W.heap[r]? = some o /\ o.isCells = false):W'.heap[B]? = some (.cells cz t (0,0)):=by
 refine (hg.block B (lt_of_block h) (fun e=>?_)).trans h
 obtain ⟨o,ho,hc⟩:=hr B e.symm
 rw [h] at ho
 simp only [Option.some.injEq] at ho
 subst ho
 simp [Obj.isCells] at hc
def readActs (b i B bs n ns m cap k:Nat) (ao:Option Addr) (x:Nat × (Nat × ByteArray)):Array Value :=
 #[.pointer (some ⟨b,0,none⟩),.int .i64 i,undef,.pointer (some ⟨B,0,none⟩),.pointer (some ⟨B + 1,0,none⟩),.pointer (some ⟨B + 1 + 1,0,none⟩),undef,.pointer (some ⟨k,0,none⟩),.bool false,.pointer (some ⟨b,0,none⟩),
  .bool false,.bool false,.pointer (some ⟨b,0,none⟩),.pointer (some ⟨b,0,none⟩),.pointer (some ⟨b,3,none⟩),.bool false,.bool false,.int .i64 i,.bool false,.bool false,
  .int .i64 i,.pointer (some ⟨b,0,none⟩),.pointer (some ⟨b,0,none⟩),.pointer (some ⟨b,0,none⟩),(.slice (some ⟨bs,0,none⟩) n ns),.int .i64 n,.bool false,.bool false,.pointer (some ⟨b,0,none⟩),.pointer (some ⟨b,0,none⟩),
  .pointer (some ⟨b,1,none⟩),.slice ao m cap,.func (.func 194) #[] #[.pointer (some ⟨B + 1 + 1 + 1,0,none⟩)],.int .i64 x.1,.agg #[.int .i64 x.2.1,.string x.2.2],undef,undef,undef,undef,undef,
  undef,undef,undef,undef,undef,undef,undef,undef]
abbrev tErrno:Nat:=26
abbrev tInt:Nat:=3
theorem read_ok {b:Nat} {S:Nat -> Prop} {D:DSt} {w:World} (h:IsDisk w b S D) (h0:D.off = false) (i:Nat) (hi:i < D.safe.length) (hlw:D.wait.length <= 9223372036854775807) :
 Calls Tryz.prog 119 #[.pointer (some ⟨b,0,none⟩),.int .i64 i] w fun e w'=>e = .returned (.tuple #[.string (D.sec i),.int .i64 0]) /\ Fr Nob w w':=by
 refine (callsIn_wide (n:=3)).1 ?_
 obtain ⟨bs,cs,sp,wv,h⟩:=h
 have c3:w.cell? ⟨b,3,none⟩ = some (.bool false):=by rw [h.head.cell rfl,h0]
 have c0:=h.head.cell (j:=0) rfl
 have c1:=h.head.cell (j:=1) rfl
 obtain ⟨ao,cap,hwv⟩:=row_any h.wait
 have hl:=h.head.lt
 have hl1:b < w.heap.size + 1:=by omega
 have hl2:b < w.heap.size + 1 + 1:=by omega
 have hl3:b < w.heap.size + 1 + 1 + 1:=by omega
 have HH:=hid h
 have HW:=hid hwv
 rw [hwv] at c1
 clear h h0 hwv
 have hd:decide ((i:Int) < 0) = false:=by simp
 have hi2:(i:Int) < (D.safe.length:Int):=by omega
 refine callsIn_of_wp_marks Tryz.func119 rfl trivial ?_ rfl
 simp only [Tryz.ntmps119,List.size_toArray,List.length_cons,List.length_nil,Nat.reduceAdd,Nat.reduceSub,Array.replicate_succ,Array.replicate_zero,List.push_toArray,List.append_toArray,List.nil_append,List.cons_append]
 rw [wpIn_wide]
 go_wp2
 go_quiet (fail)
 go_wp2_with fail
 refine (back_calls _ _ _ _).mono ?_
 rintro e w1 ⟨rfl,rfl⟩
 go_wp2_with fail
 obtain ⟨W0,hW0⟩:∃ W0,W0 = ((((w.alloc (.cells #[.int .i64 i] 3)).alloc (.cells #[.string ⟨#[]⟩] 9)).alloc (.cells #[.int .i64 0] 26)).drewN nq).alloc (.cells #[.slice ao D.wait.length cap] 120):=⟨_,rfl⟩
 have bI:Boxed W0 w.heap.size tInt (.int .i64 i):=by
  rw [hW0];exact (((Boxed.new w tInt (.int .i64 i)).alloc _).alloc _).alloc _
 have bS:Boxed W0 (w.heap.size + 1) tStr (.string ⟨#[]⟩):=by
  have h:=((Boxed.new (w.alloc (.cells #[.int .i64 i] 3)) tStr (.string ⟨#[]⟩)).alloc (.cells #[.int .i64 0] 26)).alloc (.cells #[.slice ao D.wait.length cap] 120)
  rw [World.size_alloc] at h
  rw [hW0];exact h
 have bE:Boxed W0 (w.heap.size + 1 + 1) tErrno (.int .i64 0):=by
  have h:=(Boxed.new ((w.alloc (.cells #[.int .i64 i] 3)).alloc (.cells #[.string ⟨#[]⟩] 9)) tErrno (.int .i64 0)).alloc (.cells #[.slice ao D.wait.length cap] 120)
  rw [World.size_alloc,World.size_alloc] at h
  rw [hW0];exact h
 have bN:Boxed W0 (w.heap.size + 1 + 1 + 1) 120 (.slice ao D.wait.length cap):=by
  have h:=Boxed.new (((w.alloc (.cells #[.int .i64 i] 3)).alloc (.cells #[.string ⟨#[]⟩] 9)).alloc (.cells #[.int .i64 0] 26)) 120 (.slice ao D.wait.length cap)
  rw [World.size_alloc,World.size_alloc,World.size_alloc] at h
  rw [hW0];exact h
 have hs0:W0.heap.size = w.heap.size + 1 + 1 + 1 + 1:=by rw [hW0];simp
 have hf0:Fr Nob w W0:=by rw [hW0];exact ((((Fr.refl Nob w).alloc _).alloc _).alloc _).drewN _ |>.alloc _
 rw [<- hW0]
 have hB0:Below w.heap.size w W0:=hf0.below _ (Nat.le_refl _) (fun _ h=>h.elim)
 rw [<- wpIn_wide (n:=3)]
 refine wpIn_rangeFunc_ownH (F:=Fence.wide) (n:=3) rfl (by omega) (gf:=194) (lb:=#[.pointer (some ⟨w.heap.size + 1 + 1 + 1,0,none⟩)]) rfl trivial (enters_of Tryz.func194 (by kernel_rfl) rfl)
  (back_stops Fence.wide 2 trivial rfl (by omega) (w.heap.size + 1 + 1 + 1) W0.heap.size (.slice ao D.wait.length cap) D.wait hlw W0 (by omega) (by omega) (Nat.le_refl _) bN.cell ?row ?rowlt) belowK_t (belowK_b (Nat.le_refl _)) (Below.refl _ _) (fun _=>rfl)
  (fun pre W=>(∀ p ∈ pre,p.2.1 ≠ i) /\ Boxed W w.heap.size tInt (.int .i64 i) /\ Boxed W (w.heap.size + 1) tStr (.string ⟨#[]⟩) /\ Boxed W (w.heap.size + 1 + 1) tErrno (.int .i64 0) /\ Below w.heap.size w W /\ W0.heap.size <= W.heap.size)
  (fun c pre W=>c = .ret /\ (∃ ini last,pre = ini ++ [last] /\ (∀ p ∈ ini,p.2.1 ≠ i) /\ last.2.1 = i /\ Boxed W (w.heap.size + 1) tStr (.string last.2.2)) /\ Boxed W (w.heap.size + 1 + 1) tErrno (.int .i64 0) /\ Below w.heap.size w W)
  (fun s A B row hs hg hr=>⟨hs.1,box_kept hs.2.1 hg (fun r e=>(hr r e).2),box_kept hs.2.2.1 hg (fun r e=>(hr r e).2),box_kept hs.2.2.2.1 hg (fun r e=>(hr r e).2),hs.2.2.2.2.1.grown hg hs.2.2.2.2.1.size (fun r e=>by have:=(hr r e).1;omega),Nat.le_trans hs.2.2.2.2.2 hg.size⟩)
  (fun c s A B row hs hg hr=>by
   obtain ⟨h1,⟨ini,last,h2,h3,h4,h5⟩,h6,h7⟩:=hs
   exact ⟨h1,⟨ini,last,h2,h3,h4,box_kept h5 hg (fun r e=>(hr r e).2)⟩,box_kept h6 hg (fun r e=>(hr r e).2),h7.grown hg h7.size (fun r e=>by have:=(hr r e).1;omega)⟩)
  ⟨by simp,bI,bS,bE,hB0,Nat.le_refl _⟩
  (fun x a' W=>∃ k,W.heap[k]? = some (.cells #[.int .i64 x.2.1,.string x.2.2] tWrite (0,0)) /\ a' = { tmps:=readActs b i w.heap.size bs D.safe.length cs D.wait.length cap k ao x,defers:=[] })
  (fun x a' s A B row hs hg hr=>by
   obtain ⟨k,h1,h2⟩:=hs
   exact ⟨k,box_kept h1 hg (fun r e=>(hr r e).2),h2⟩)
  ?assign ?body ?done ?stop
 case row=>exact row_fr (HW.out ▸ HH.out.wait) hf0 (fun _ _ h=>h)
 case rowlt =>
  intro k hk
  have:=(HH.out.apart (k:=k) (by rw [HW.out];exact hk)).1
  omega
 case assign =>
  intro l pre x W K hI hK
  obtain ⟨hp,h1,h2,h3,h4,hsz⟩:=hI
  clear bI bS bE bN hW0
  gi_wp2
  exact hK _ _ ((KeepsOthers.alloc _ _).from _) ((Below.refl _ W).alloc hsz _) ⟨hp,h1.alloc _,h2.alloc _,h3.alloc _,h4.alloc h4.size _,by simp;omega⟩ ⟨W.heap.size,heap_alloc_new W _,rfl⟩
 case body =>
  rintro l pre x a' W hl0 ⟨r,hr⟩ ⟨hp,h1,h2,h3,h4,hsz⟩ ⟨k,hk,rfl⟩ hlt
  have q0:W.cell? ⟨k,0,none⟩ = some (.int .i64 x.2.1):=by rw [cell_of_row W k 0 _ _ _ hk];rfl
  have q1:W.cell? ⟨k,1,none⟩ = some (.string x.2.2):=by rw [cell_of_row W k 1 _ _ _ hk];rfl
  have p1:=h1.cell
  have p2:=h2.cell
  have p3:=h3.cell
  have f2:=h2.frozen
  have f3:=h3.frozen
  have H4:=hid h4
  have H1:=hid h1
  have H2:=hid h2
  have H3:=hid h3
  have HP:=hid hp
  have HS:=hid hs0
  clear bI bS bE bN hW0 hr hk h4 h1 h2 h3 hp hs0 hf0 hB0
  unfold readActs
  by_cases hx:x.2.1 = i
  ·have hx':((x.2.1:Int) == (i:Int)) = true:=by rw [beq_iff_eq];omega
   have HX:=hid hx
   clear hx
   gi_wp2
   have b2:Boxed ((W.setCell ⟨w.heap.size + 1,0,none⟩ (.string x.2.2)).setCell ⟨w.heap.size + 1 + 1,0,none⟩ (.int .i64 0)) (w.heap.size + 1) tStr (.string x.2.2) :=
    (Below.heap_setCell _ _ _ _ (by simp)).trans (one_setCell H2.out)
   have b3:Boxed ((W.setCell ⟨w.heap.size + 1,0,none⟩ (.string x.2.2)).setCell ⟨w.heap.size + 1 + 1,0,none⟩ (.int .i64 0)) (w.heap.size + 1 + 1) tErrno (.int .i64 0) :=
    one_setCell ((Below.heap_setCell _ _ _ _ (by simp)).trans H3.out)
   exact ⟨((KeepsOthers.setCell _ _ _).trans (KeepsOthers.setCell _ _ _)).from _,rfl,⟨pre,x,rfl,HP.out,HX.out,b2⟩,b3,(H4.out.setCell (by simp) _).setCell (by simp;omega) _⟩
  ·have hx':((x.2.1:Int) == (i:Int)) = false:=by rw [beq_eq_false_iff_ne];omega
   have HX:=hid hx
   clear hx
   gi_wp2
   exact ⟨KeepsFrom.refl _ _,Below.refl _ _,fun p hp=>(List.mem_append.1 hp).elim (HP.out p) (fun e=>by simp at e;subst e;exact HX.out),H1.out,H2.out,H3.out,H4.out,hsz⟩
 case done =>
  rintro D1 ys W hD rfl ⟨hp,h1,h2,h3,h4,hsz⟩ hK
  have hlt:=HH.out.head.lt
  have q0:=(h4.cell (p:=⟨b,0,none⟩) hlt).trans c0
  obtain ⟨y,hy⟩:∃ y,D.safe[i]? = some y:=⟨_,List.getElem?_eq_getElem hi⟩
  have q1:W.cell? ⟨bs,i,none⟩ = some (.string y):=(h4.cell (p:=⟨bs,i,none⟩) HH.out.rows.lt).trans (HH.out.rows.cell (strs_get hy))
  have p1:=h1.cell
  have p2:=h2.cell
  have p3:=h3.cell
  have f2:=h2.frozen
  have f3:=h3.frozen
  have H4:=hid h4
  have H2:=hid h2
  have H3:=hid h3
  have HP:=hid hp
  have HK:=hid hK
  have HY:=hid hy
  have HS:=hid hs0
  clear bI bS bE bN hW0 h4 h1 h2 h3 hp hs0 hf0 hB0 hK hy
  go_wp2_with fail
  refine wp_region_tail 7 (by kernel_rfl) (by kernel_rfl) ?_
  simp only [List.take_succ_cons,List.take_zero,List.drop_succ_cons,List.drop_zero]
  repeat still_step
  refine wpStill_nil ?_
  go_wp2
  obtain ⟨W2,hW2⟩:∃ W2,W2 = ((W.setCell ⟨w.heap.size + 1,0,none⟩ (.string y)).setCell ⟨w.heap.size + 1 + 1,0,none⟩ (.int .i64 0)).drew:=⟨_,rfl⟩
  have b2:Boxed W2 (w.heap.size + 1) tStr (.string y):=by rw [hW2];exact (Below.heap_setCell _ _ _ _ (by simp)).trans (one_setCell H2.out)
  have b3:Boxed W2 (w.heap.size + 1 + 1) tErrno (.int .i64 0):=by rw [hW2];exact one_setCell ((Below.heap_setCell _ _ _ _ (by simp)).trans H3.out)
  have hK2:W2.heap[D1]? = some (.deferred (some [])):=by rw [hW2];exact ((KeepsOthers.setCell _ _ _).trans (KeepsOthers.setCell _ _ _)).same D1 _ HK.out rfl
  have hB2:Below w.heap.size w W2:=by rw [hW2];exact ((H4.out.setCell (by simp) _).setCell (by simp;omega) _).drew
  have hn:lastOf D.wait i = none:=lastOf_none HP.out
  rw [<- hW2]
  refine ⟨by simp,.inl ⟨_,_,rfl,run_takeDeferred hK2,?_⟩⟩
  have c4:=cell_kept b2.cell (grownBy_putObj' _ D1 (.deferred none)) (fun r e=>by cases e;exact ⟨_,hK2,rfl⟩)
  have c5:=cell_kept b3.cell (grownBy_putObj' _ D1 (.deferred none)) (fun r e=>by cases e;exact ⟨_,hK2,rfl⟩)
  refine ⟨.tuple #[.string y,.int .i64 0],?_,?_,Fr.of_below (hB2.trans (belowK_b (w:=w) (Nat.le_refl _) W2 D1 _ _ (by have:=HS.out;omega) hK2 rfl rfl)) (fun _ h _=>h)⟩
  ·simp [results,Tryz.f119,go_sem,c4,c5]
  ·rw [show D.sec i = y by simp [DSt.sec,hn,HY.out]]
 case stop =>
  rintro D1 c pre W hD hpre ⟨rfl,⟨ini,last,rfl,hini,hlast,h2⟩,h3,h4⟩ hK
  have H2:=hid h2
  have H3:=hid h3
  have H4:=hid h4
  have HK:=hid hK
  have HL:=hid (lastOf_some hpre hini hlast)
  clear bI bS bE bN hW0 hf0 hB0 hpre hini hlast h2 h3 h4 hK
  gi_wp2
  have hK2:=HK.out
  have hB2:=H4.out
  refine ⟨by simp,.inl ⟨_,_,rfl,run_takeDeferred hK2,?_⟩⟩
  have c4:=cell_kept H2.out.cell (grownBy_putObj' _ D1 (.deferred none)) (fun r e=>by cases e;exact ⟨_,hK2,rfl⟩)
  have c5:=cell_kept H3.out.cell (grownBy_putObj' _ D1 (.deferred none)) (fun r e=>by cases e;exact ⟨_,hK2,rfl⟩)
  refine ⟨.tuple #[.string last.2.2,.int .i64 0],?_,?_,Fr.of_below (hB2.trans (belowK_b (w:=w) (Nat.le_refl _) W D1 _ _ (by omega) hK2 rfl rfl)) (fun _ h _=>h)⟩
  ·simp [results,Tryz.f119,go_sem,c4,c5]
  ·rw [show D.sec i = last.2.2 by simp [DSt.sec,HL.out]]
end
theorem Tryz.infoU8:(Tryz.prog.info? 5).map (fun i=>(i.zero,i.size,i.bytes)) = some (some (.int .u8 0),1,1):=by kernel_rfl
def zeros64:List Int:=List.replicate 64 0
theorem nought_eq:strOf zeros64 = nought:=by decide +kernel
theorem noughts_calls (w:World) :
 Calls Tryz.prog 23 #[] w fun e w'=>e = .returned (.string nought) /\ Fr Nob w w':=by
 have hz:=nought_eq
 go_enter Tryz.func23,Tryz.ntmps23
 go_wp2_with (first | (at_make;refine wpList_make_mine (n:=64) (l:=.const (.int .i64 64)) (c:=.const (.int .i64 64)) rfl rfl Tryz.underlying116 Tryz.infoU8 rfl rfl rfl (by omega) (by omega) ?_;intro w2 hb2 hf2 hs2) | (with_reducible show wpList _ _ _ _ _ _;refine wpList_bytes_string (x:=.tmp 1) rfl rfl Tryz.underlying116 Tryz.underlying5 Tryz.underlying9 rfl (ns:=zeros64) rfl (blk_src (k:=0) hb2 (by intro j v hj;unfold zeros64 at hj;rw [List.map_replicate] at hj;rw [Nat.zero_add];exact hj)) ?_))
 go_ret
 exact ⟨rfl,hf2⟩
section
open Go.ChangeShapes Go.WideShapes Go.ChangeAt Go.RowKit Go.Deep
theorem Tryz.own:ownKnob Tryz.prog.godebug = none:=by kernel_rfl
theorem wf_i64 {n:Int} (h:(Lit.int .i64 n).wf = true):n <= 9223372036854775807:=(bounds_i64 h).2
end
end Go.Proofs.YtngalllaiphkhaaGreatDoor
