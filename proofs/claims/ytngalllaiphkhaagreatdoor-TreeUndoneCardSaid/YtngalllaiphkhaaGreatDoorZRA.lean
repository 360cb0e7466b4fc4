import Derived.Test.YtngalllaiphkhaaGreatDoorZVnA
import Derived.Test.YtngalllaiphkhaaGreatDoorZMS
import Derived.BigRegion
import Derived.BigQuiet
namespace Go.Proofs.YtngalllaiphkhaaGreatDoor
open Go.RowKit
open Go.Lib (hid)
set_option maxRecDepth 100000
set_option maxHeartbeats 16000000
set_option linter.unusedVariables false
set_option linter.unusedSimpArgs false
theorem rsectors_calls (n:Nat) (hn:n <= 65536) (w:World) :
 Calls Tryz.prog 130 #[.int .i64 n] w fun e w'=>e = .returned (.int .i64 (sectorsP n:Nat)) /\ w = w':=by
 have h5:(n:Int).tdiv 64 = ((n / 64:Nat):Int):=by rw [Int.tdiv_eq_ediv_of_nonneg (by omega)];omega
 have h6:(n:Int).tmod 64 = ((n % 64:Nat):Int):=by rw [Int.tmod_eq_emod_of_nonneg (by omega)];omega
 have h7:IntKind.i64.wrap ((n / 64:Nat):Int) = ((n / 64:Nat):Int):=by rw [IntKind.wrap_i64] <;> omega
 have h8:IntKind.i64.wrap ((n % 64:Nat):Int) = ((n % 64:Nat):Int):=by rw [IntKind.wrap_i64] <;> omega
 by_cases h:n % 64 = 0
 ·have hs:sectorsP n = n / 64:=by unfold sectorsP;omega
  rw [hs]
  have h9:¬ (0:Int) < ((n % 64:Nat):Int):=by omega
  clear h hn hs
  generalize hq:n / 64 = q at *
  generalize hr:n % 64 = r at *
  clear hq hr
  go_enter Tryz.func130,Tryz.ntmps130
  go_wp2_with fail
  go_ret
  exact ⟨rfl,rfl⟩
 ·have hs:sectorsP n = n / 64 + 1:=by unfold sectorsP;omega
  rw [hs]
  have h9:(0:Int) < ((n % 64:Nat):Int):=by omega
  have h10:IntKind.i64.wrap (((n / 64:Nat):Int) + 1) = ((n / 64 + 1:Nat):Int):=by rw [IntKind.wrap_i64] <;> omega
  clear h hn hs
  generalize n / 64 + 1 = q1 at *
  generalize hq:n / 64 = q at *
  generalize hr:n % 64 = r at *
  clear hq hr
  go_enter Tryz.func130,Tryz.ntmps130
  go_wp2_with fail
  go_ret
  exact ⟨rfl,rfl⟩
theorem rtakes_calls (n:Nat) (hn:n <= 65536) (w:World) :
 Calls Tryz.prog 203 #[.int .i64 n] w fun e w'=>e = .returned (.int .i64 (takesP n:Nat)) /\ w = w':=by
 have HC:=hid (rsectors_calls n hn w)
 have hs:sectorsP n <= 65536:=by unfold sectorsP;omega
 unfold takesP
 generalize sectorsP n = m at *
 clear hn
 by_cases h:5 < m
 ·rw [if_pos h]
  have h':(5:Int) < (m:Int):=by omega
  go_enter Tryz.func203,Tryz.ntmps203
  go_wp2_with fail
  refine HC.out.mono ?_
  rintro e w1 ⟨rfl,rfl⟩
  go_wp2_with fail
  go_ret
  exact ⟨by first | rfl | (congr 2),rfl⟩
 ·rw [if_neg h]
  have h':¬ (5:Int) < (m:Int):=by omega
  go_enter Tryz.func203,Tryz.ntmps203
  go_wp2_with fail
  refine HC.out.mono ?_
  rintro e w1 ⟨rfl,rfl⟩
  go_wp2_with fail
  go_ret
  exact ⟨rfl,rfl⟩
abbrev tRVol:Nat:=135
abbrev tRNode:Nat:=130
def dataB (a:Node):ByteArray:=⟨a.data.toArray⟩
def nodeL (a:Node):List Value:=[.int .i64 a.kind,.int .i64 a.links,.string (dataB a)]
def nodesL (A:Nat -> Node) (k:Nat):List Value:=(List.range k).flatMap fun i=>nodeL (A i)
theorem dataB_size (a:Node):(dataB a).size = a.data.length:=by unfold dataB;simp [ByteArray.size]
theorem nodesL_succ (A:Nat -> Node) (k:Nat):nodesL A (k + 1) = nodesL A k ++ nodeL (A k):=by unfold nodesL;rw [List.range_succ,List.flatMap_append];simp
theorem nodesL_length (A:Nat -> Node):∀ k,(nodesL A k).length = k * 3
 | 0=>rfl
 | k + 1=>by rw [nodesL_succ,List.length_append,nodesL_length A k];simp [nodeL];omega
theorem nodesL_get (A:Nat -> Node) {i j:Nat} (hj:j < 3):∀ k,i < k -> (nodesL A k)[i * 3 + j]? = (nodeL (A i))[j]?
 | 0,h=>by omega
 | k + 1,h=>by
  rw [nodesL_succ]
  have hl:=nodesL_length A k
  by_cases hi:i < k
  ·rw [List.getElem?_append_left (by omega)];exact nodesL_get A hj k hi
  ·obtain rfl:i = k:=by omega
   rw [List.getElem?_append_right (by omega),hl,Nat.add_sub_cancel_left]
def rvA (r nb c:Nat) (sp:List Value) (m:Nat) (A:Nat -> Node):Asr:=Star (blkA r tRVol [.int .i64 m,.slice (some ⟨nb,0,none⟩) 32 c]) (blkA nb tRNode (nodesL A 32 ++ sp))
theorem loc_rv (r nb c:Nat) (sp:List Value) (m:Nat) (A:Nat -> Node):Loc (rvA r nb c sp m A):=loc_star (loc_blk _ _ _) (loc_blk _ _ _)
theorem nodes_at (A:Nat -> Node) (sp:List Value) {i j:Nat} (hi:i < 32) (hj:j < 3):(nodesL A 32 ++ sp)[i * 3 + j]? = (nodeL (A i))[j]?:=by
 rw [List.getElem?_append_left (by rw [nodesL_length];omega)]
 exact nodesL_get A hj 32 hi
def rvX (r m:Nat) (A:Nat -> Node):Asr:=fun w S=>∃ nb c sp,rvA r nb c sp m A w S
theorem rvX_open {S0:Nat -> Prop} {w0 w:World} {r m:Nat} {A:Nat -> Node} {B:Asr} (h:Lv S0 w0 (Star (rvX r m A) B) w):∃ nb c sp,Lv S0 w0 (Star (rvA r nb c sp m A) B) w:=by
 obtain ⟨U,⟨S,T,⟨nb,c,sp,h1⟩,h2⟩,h3⟩:=h
 exact ⟨nb,c,sp,U,⟨S,T,h1,h2⟩,h3⟩
theorem rvX_shut {S0:Nat -> Prop} {w0 w:World} {r nb c m:Nat} {sp:List Value} {A:Nat -> Node} {B:Asr} (h:Lv S0 w0 (Star (rvA r nb c sp m A) B) w):Lv S0 w0 (Star (rvX r m A) B) w :=
 h.map fun _ h=>star_left h fun _ h=>⟨nb,c,sp,h⟩
section
variable {S0:Nat -> Prop} {w0 w:World} {r nb c m:Nat} {sp:List Value} {A:Nat -> Node} {B R:Asr}
theorem rv_cells (h:Lv S0 w0 (Star (rvA r nb c sp m A) B) w):w.cell? ⟨r,0,none⟩ = some (.int .i64 m) /\ w.cell? ⟨r,1,none⟩ = some (.slice (some ⟨nb,0,none⟩) 32 c) /\
 ∀ i,i < 32 -> w.cell? ⟨nb,i * 3,none⟩ = some (.int .i64 (A i).kind) /\ w.cell? ⟨nb,i * 3 + 1,none⟩ = some (.int .i64 (A i).links) /\ w.cell? ⟨nb,i * 3 + 2,none⟩ = some (.string (dataB (A i))):=by
 have h1:=(Lv.assoc h).blk
 have h2:=(Lv.drop (Lv.assoc h)).blk
 refine ⟨h1.cell (j:=0) rfl,h1.cell (j:=1) rfl,fun i hi=>⟨?_,?_,?_⟩⟩
 ·have:=h2.cell (j:=i * 3 + 0) (by rw [nodes_at A sp hi (by omega)];rfl)
  simpa using this
 ·exact h2.cell (j:=i * 3 + 1) (by rw [nodes_at A sp hi (by omega)];rfl)
 ·exact h2.cell (j:=i * 3 + 2) (by rw [nodes_at A sp hi (by omega)];rfl)
theorem rfind_calls (hL:Lv S0 w0 (Star (rvA r nb c sp m A) B) w) (n:Int):Calls Tryz.prog 202 #[.pointer (some ⟨r,0,none⟩),.int .i64 n] w fun e w'=>e = .returned (.int .i64 (afindE A n)) /\ w = w':=by
 obtain ⟨c0,c1,cn⟩:=rv_cells hL
 unfold afindE
 by_cases h0:n < 0
 ·rw [if_pos (.inl h0)]
  go_enter Tryz.func202,Tryz.ntmps202
  go_wp2_with fail
  go_ret
  exact ⟨rfl,rfl⟩
 ·by_cases h1:(31:Int) < n
  ·rw [if_pos (.inr (by omega))]
   go_enter Tryz.func202,Tryz.ntmps202
   go_wp2_with fail
   go_ret
   exact ⟨rfl,rfl⟩
  ·rw [if_neg (by omega)]
   obtain ⟨k,rfl⟩:∃ k:Nat,n = k:=⟨n.toNat,by omega⟩
   have hk:k < 32:=by omega
   have hk2:(k:Int) < 32:=by omega
   obtain ⟨d0,d1,d2⟩:=cn k hk
   rw [Int.toNat_natCast]
   clear cn hL
   by_cases hz:(A k).kind = 0
   ·rw [if_pos hz]
    rw [hz] at d0
    go_enter Tryz.func202,Tryz.ntmps202
    go_wp2_with fail
    go_ret
    exact ⟨rfl,rfl⟩
   ·rw [if_neg hz]
    have hz':(((A k).kind:Int) == 0) = false:=by rw [beq_eq_false_iff_ne];omega
    go_enter Tryz.func202,Tryz.ntmps202
    go_wp2_with fail
    go_ret
    exact ⟨rfl,rfl⟩
end
theorem nodesL_set {A:Nat -> Node} {n j:Nat} (hn:n < 32) (hj:j < 3) {v:Value} {d:Node} (hd:∀ l,l < 3 -> (nodeL d)[l]? = if l = j then some v else (nodeL (A n))[l]?) :
 (nodesL A 32).set (n * 3 + j) v = nodesL (setA A n d) 32:=by
 have l1:=nodesL_length A 32
 have l2:=nodesL_length (setA A n d) 32
 apply List.ext_getElem?
 intro p
 by_cases hp:p < 96
 ·have e:p = p / 3 * 3 + p % 3:=by omega
  have hi:p / 3 < 32:=by omega
  have hl:p % 3 < 3:=by omega
  rw [List.getElem?_set]
  by_cases h1:n * 3 + j = p
  ·rw [if_pos h1,if_pos (by omega),<- h1,nodesL_get _ hj 32 hn]
   have:setA A n d n = d:=if_pos rfl
   rw [this,hd j hj,if_pos rfl]
  ·rw [if_neg h1,e,nodesL_get _ hl 32 hi,nodesL_get _ hl 32 hi]
   by_cases h2:p / 3 = n
   ·have:setA A n d (p / 3) = d:=if_pos h2
    rw [this,hd _ hl,if_neg (by omega),h2]
   ·have:setA A n d (p / 3) = A (p / 3):=if_neg h2
    rw [this]
 ·rw [List.getElem?_eq_none (by rw [List.length_set];omega),List.getElem?_eq_none (by omega)]
theorem setA_setA (A:Nat -> Node) (n:Nat) (d e:Node):setA (setA A n d) n e = setA A n e:=by
 funext j;unfold setA;split <;> rfl
theorem setA_at (A:Nat -> Node) (n:Nat) (d:Node):setA A n d n = d:=if_pos rfl
section
variable {S0:Nat -> Prop} {w0 w:World} {r nb c m:Nat} {sp:List Value} {A:Nat -> Node} {B R:Asr}
theorem rv_turn (h:Lv S0 w0 (Star (rvA r nb c sp m A) B) w) (hB:Loc B) {n j:Nat} (hn:n < 32) (hj:j < 3) {v:Value} {d:Node} (hd:∀ l,l < 3 -> (nodeL d)[l]? = if l = j then some v else (nodeL (A n))[l]?) :
 Lv S0 w0 (Star (rvA r nb c sp m (setA A n d)) B) (w.setCell ⟨nb,n * 3 + j,none⟩ v):=by
 have h1:Lv S0 w0 (Star (blkA nb tRNode (nodesL A 32 ++ sp)) (Star (blkA r tRVol [.int .i64 m,.slice (some ⟨nb,0,none⟩) 32 c]) B)) w:=(Lv.assoc h).map fun _ h=>star_flip h
 have h2:=h1.turn (loc_star (loc_blk _ _ _) hB) (turn_blk (n * 3 + j) v)
 rw [List.set_append_left _ _ (by rw [nodesL_length];omega),nodesL_set hn hj hd] at h2
 exact (h2.map fun _ h=>star_flip h).assoc'
theorem rv_links (h : Lv S0 w0 (Star (rvA r nb c sp m A) B) w) (hB : Loc B) {n : Nat} (hn : n < 32) (l : Nat) :
    Lv S0 w0 (Star (rvA r nb c sp m (setA A n { A n with links := l })) B) (w.setCell ⟨nb, n * 3 + 1, none⟩ (.int .i64 l)) :=
  rv_turn h hB hn (by omega) (fun k hk => by obtain rfl | rfl | rfl : k = 0 ∨ k = 1 ∨ k = 2 := by omega
                                             all_goals rfl)
theorem rv_data (h : Lv S0 w0 (Star (rvA r nb c sp m A) B) w) (hB : Loc B) {n : Nat} (hn : n < 32) (s : List UInt8) :
    Lv S0 w0 (Star (rvA r nb c sp m (setA A n { A n with data := s })) B) (w.setCell ⟨nb, n * 3 + 2, none⟩ (.string ⟨s.toArray⟩)) :=
  rv_turn h hB hn (by omega) (fun k hk => by obtain rfl | rfl | rfl : k = 0 ∨ k = 1 ∨ k = 2 := by omega
                                             all_goals rfl)
theorem rv_node (h:Lv S0 w0 (Star (rvA r nb c sp m A) B) w) (hB:Loc B) {n:Nat} (hn:n < 32) (d:Node) :
 Lv S0 w0 (Star (rvA r nb c sp m (setA A n d)) B) (((w.setCell ⟨nb,n * 3,none⟩ (.int .i64 d.kind)).setCell ⟨nb,n * 3 + 1,none⟩ (.int .i64 d.links)).setCell ⟨nb,n * 3 + 2,none⟩ (.string (dataB d))):=by
 have h1:=rv_turn (j:=0) (d:={ A n with kind:=d.kind }) (v:=.int .i64 d.kind) h hB hn (by omega) (fun k hk=>by
  obtain rfl | rfl | rfl:k = 0 \/ k = 1 \/ k = 2:=by omega
  all_goals rfl)
 have h2:=rv_links h1 hB hn d.links
 rw [setA_at,setA_setA] at h2
 have h3:=rv_data h2 hB hn d.data
 rw [setA_at,setA_setA] at h3
 exact h3
theorem rv_free (h:Lv S0 w0 (Star (rvA r nb c sp m A) B) w) (j:Nat):w.frozen? ⟨nb,j,none⟩ = false:=(Lv.drop (Lv.assoc h)).blk.free j
end
def AOk (m:Nat) (A:Nat -> Node):Prop:=∀ n,n < 32 -> (A n).kind <= 2 /\ (A n).links < 256 /\ (A n).data.length <= 2368
theorem IsVol.aok {m:Nat} {X:Sec} {A:Nat -> Node} (h:IsVol m X A):AOk m A:=fun n hn=>by
 have hg:=h.good n hn
 rw [h.len hn,h.kind hn,h.links hn]
 exact ⟨hg.kind,hg.links,hg.size⟩
theorem Tryz.nodeInfo:(Tryz.prog.info? tRNode).map (fun i=>(i.zero,i.size,i.bytes)) = some (some (.agg #[.int .i64 0,.int .i64 0,.string ⟨#[]⟩]),3,32):=by kernel_rfl
theorem made_nodes:madeCells #[.int .i64 0,.int .i64 0,.string ⟨#[]⟩] 96 = (nodesL (fun _=>Node.free) 32).toArray:=by kernel_rfl
theorem wpList_make_nodes {w:World} {ops:Array Oper} {rest:List Oper} {o:Oper} {a:Act} {Q:Exit -> Act -> World -> Prop} (hg:o.guard = none) {l c:Operand} (hop:o.op = Op.makeSlice 133 l c)
 (hl:a.eval l = .int .i64 32) (hc:a.eval c = .int .i64 32)
 (hK:wpList Tryz.prog ops Q rest (a.put o.dst (.slice (some ⟨w.heap.size,0,none⟩) 32 32)) (w.alloc (.cells (nodesL (fun _=>Node.free) 32).toArray tRNode))) :
 wpList Tryz.prog ops Q (o :: rest) a w:=by
 refine wpList_plain hg fun K hK'=>?_
 obtain ⟨i,hi,hzz⟩:=Option.map_eq_some_iff.1 Tryz.nodeInfo
 simp only [Prod.mk.injEq] at hzz
 obtain ⟨hz,hs,hb⟩:=hzz
 have hr:=run_make (P:=Tryz.prog) w 133 tRNode i _ Tryz.underlying133 hi hz .i64 .i64 32 32 (by decide) (by decide) (by rw [hb];decide) (by decide)
 rw [hs,show (32:Int).toNat = 32 from rfl,show (32 * 3:Nat) = 96 from rfl,show (Value.agg #[.int .i64 0,.int .i64 0,.string ⟨#[]⟩]).cells = #[.int .i64 0,.int .i64 0,.string ⟨#[]⟩] from rfl,made_nodes] at hr
 generalize (nodesL (fun _=>Node.free) 32).toArray = NN at hr hK
 unfold Oper.wp
 simp [execOp,hop,hl,hc,hr,Result.andThen]
 exact hK' _ _ hK
theorem row_blk {w:World} {B e n size:Nat} {v:Value} {xs:List Value} (h:w.ownsRow B e size v n xs) (hn:0 < n):∃ g cap sp,v = .slice (some ⟨g,0,none⟩) n cap /\ Blk w g e (xs ++ sp):=by
 rcases h.2 with ⟨_,h3⟩ | ⟨g,cap,cur,hv,hb,hg,h4,h5,h6,h7⟩
 ·omega
 ·refine ⟨g,cap,cur.toList.drop (n * size),hv,?_⟩
  rw [<- h7,List.take_append_drop]
  unfold Blk
  rw [Array.toArray_toList]
  exact hg
section
variable {S0:Nat -> Prop} {w0 w:World} {r nb c m:Nat} {sp:List Value} {A:Nat -> Node} {B R:Asr}
theorem rnew_calls (m:Nat) (w:World):Calls Tryz.prog 66 #[.int .i64 m] w fun e w'=>∃ r,e = .returned (.pointer (some ⟨r,0,none⟩)) /\ Lv Nob w (rvA r w.heap.size 32 [] m (fun _=>Node.free)) w':=by
 have LS:Lv Nob w Emp w:=(Live.start w).lv
 have L1:=LS.box loc_emp tRNode (nodesL (fun _=>Node.free) 32)
 have hN:(w.alloc (.cells (nodesL (fun _=>Node.free) 32).toArray tRNode)).heap.size = w.heap.size + 1:=by simp
 have L2:=L1.box (loc_star (loc_blk _ _ _) loc_emp) tRVol [.int .i64 m,.slice (some ⟨w.heap.size,0,none⟩) 32 32]
 rw [hN] at L2
 have HL:=hid L2
 clear L1 L2 LS hN
 go_enter Tryz.func66,Tryz.ntmps66
 go_wp2_with (with_reducible show wpList _ _ _ _ _ _;refine wpList_make_nodes rfl rfl rfl rfl ?_;generalize hNN:nodesL (fun _=>Node.free) 32 = NN at *)
 go_ret
 subst hNN
 refine ⟨_,rfl,HL.out.map fun U h=>?_⟩
 obtain ⟨S,T,h1,⟨S2,T2,h2,_,_,e3,_⟩,h3,h4,h5⟩:=h
 refine ⟨S,S2,h1,?_,fun k hk hs=>h3 k hk (e3 k hs),h4,fun k hk=>h5 k (e3 k hk)⟩
 rw [List.append_nil]
 exact h2
end
section
variable {S0:Nat -> Prop} {w0 w:World} {r nb c m:Nat} {sp:List Value} {A:Nat -> Node} {B R:Asr}
theorem afind_cases (A:Nat -> Node) (n:Int):(afindE A n ≠ 0) \/ (afindE A n = 0 /\ ∃ k:Nat,n = k /\ k < 32 /\ (A k).kind ≠ 0):=by
 by_cases h:afindE A n = 0
 ·right
  refine ⟨h,n.toNat,?_⟩
  unfold afindE at h
  split at h
  ·cases h
  ·split at h
   ·cases h
   ·rename_i h1 h2
    exact ⟨by omega,by omega,h2⟩
 ·exact .inl h
theorem rstat_calls (hL:Lv S0 w0 (Star (rvA r nb c sp m A) B) w) (hB:Loc B) (n:Int) :
 Calls Tryz.prog 179 #[.pointer (some ⟨r,0,none⟩),.int .i64 n] w fun e w'=>e = .returned (.tuple #[if afindE A n = 0 then nstatV (A n.toNat) else nstatV Node.free,.int .i64 (afindE A n)]) /\ Lv S0 w0 (Star (rvA r nb c sp m A) B) w':=by
 have hR:Loc (Star (rvA r nb c sp m A) B):=loc_star (loc_rv _ _ _ _ _ _) hB
 have L1:=Lv.box hL hR tStat zeroS
 have HF:=hid ((rfind_calls (L1.map fun _ h=>star_flip h) n).mono fun e w' ⟨h1,h2⟩=>(⟨h1,h2 ▸ L1⟩:e = Ending.returned (.int .i64 (afindE A n)) /\ Lv S0 w0 (Star (blkA w.heap.size tStat zeroS) (Star (rvA r nb c sp m A) B)) w'))
 obtain ⟨b0,hb0⟩:∃ b0,b0 = w.heap.size:=⟨_,rfl⟩
 rw [<- hb0] at HF
 have HB0:=hid hb0
 rcases afind_cases A n with h0 | ⟨h0,k,rfl,hk,hz⟩
 ·rw [if_neg h0]
  have hne:(afindE A n != 0) = true:=by rw [bne_iff_ne];exact h0
  generalize afindE A n = gE at *
  clear L1 hL h0 hb0
  go_enter Tryz.func179,Tryz.ntmps179
  go_wp2_with fail
  rw [<- HB0.out]
  refine HF.out.mono ?_
  rintro e w2 ⟨rfl,L2⟩
  have HB:=hid L2.blk
  have HL:=hid L2
  have z0:=L2.blk.cell (j:=0) rfl
  have z1:=L2.blk.cell (j:=1) rfl
  have z2:=L2.blk.cell (j:=2) rfl
  have f0:=L2.blk.free 0
  have f1:=L2.blk.free 1
  have f2:=L2.blk.free 2
  clear L2
  go_wp2_with fail
  refine bodyPost_ret (results_blk_tmp rfl rfl (((HB.out.set 0 _).set 1 _).set 2 _) Tryz.underlying30 rfl Tryz.sizeStat) rfl ?_
  exact ⟨rfl,(((HL.out.turn hR (turn_blk 0 _)).turn hR (turn_blk 1 _)).turn hR (turn_blk 2 _)).drop⟩
 ·rw [if_pos h0,Int.toNat_natCast]
  rw [h0] at HF ⊢
  have hk2:(k:Int) < 32:=by omega
  have HK:=hid hk
  unfold nstatV
  rw [<- dataB_size (A k)]
  obtain ⟨kd,hkd⟩:∃ x,x = (A k).kind:=⟨_,rfl⟩
  obtain ⟨lk,hlk⟩:∃ x,x = (A k).links:=⟨_,rfl⟩
  obtain ⟨db,hdb⟩:∃ x,x = dataB (A k):=⟨_,rfl⟩
  rw [<- hkd,<- hlk,<- hdb]
  have HKD:=hid hkd
  have HLK:=hid hlk
  have HDB:=hid hdb
  clear L1 hL h0 hz hk hb0 hkd hlk hdb
  go_enter Tryz.func179,Tryz.ntmps179
  go_wp2_with fail
  rw [<- HB0.out]
  refine HF.out.mono ?_
  rintro e w2 ⟨rfl,L2⟩
  have HB:=hid L2.blk
  have HL:=hid L2
  obtain ⟨c0,c1,cn⟩:=rv_cells (L2.map fun _ h=>star_flip h)
  obtain ⟨d0,d1,d2⟩:=cn k HK.out
  have z0:=L2.blk.cell (j:=0) rfl
  have z1:=L2.blk.cell (j:=1) rfl
  have z2:=L2.blk.cell (j:=2) rfl
  have f0:=L2.blk.free 0
  have f1:=L2.blk.free 1
  have f2:=L2.blk.free 2
  rw [<- HKD.out] at d0
  rw [<- HLK.out] at d1
  rw [<- HDB.out] at d2
  clear L2 cn c0
  go_wp2_with fail
  go_region
  go_wp2_with fail
  refine bodyPost_ret (results_blk_tmp rfl rfl (((HB.out.set 0 _).set 1 _).set 2 _).drew Tryz.underlying30 rfl Tryz.sizeStat) rfl ?_
  exact ⟨rfl,((((HL.out.turn hR (turn_blk 0 _)).turn hR (turn_blk 1 _)).turn hR (turn_blk 2 _)).drop).drew hR⟩
theorem bytes_of {x y:ByteArray} (h:x.data.toList = y.data.toList):x = y:=by
 cases x;cases y
 simp only [ByteArray.mk.injEq]
 exact Array.toList_inj.1 h
theorem bytes_mk (l:List UInt8) {x:ByteArray} (h:x.data.toList = l):x = ⟨l.toArray⟩:=bytes_of (by rw [h])
end
theorem takes_le38' {n:Nat} (h:n <= 2368):takesP n <= 38:=by unfold takesP sectorsP;split <;> omega
theorem sumT_le' {A:Nat -> Node} (h:∀ n,n < 32 -> (A n).data.length <= 2368):∀ j,j <= 32 -> sumT A j <= 38 * j
 | 0,_=>Nat.zero_le _
 | j + 1,hj=>by
  have:=sumT_le' h j (by omega)
  have:=takes_le38' (h j (by omega))
  unfold sumT
  omega
section
variable {S0:Nat -> Prop} {w0 w:World} {r nb c m:Nat} {sp:List Value} {A:Nat -> Node} {B R:Asr}
theorem rroom_calls (hL:Lv S0 w0 (Star (rvA r nb c sp m A) B) w) (hm:m <= 512) (hA:∀ n,n < 32 -> (A n).data.length <= 2368) :
 Calls Tryz.prog 201 #[.pointer (some ⟨r,0,none⟩)] w fun e w'=>e = .returned (.int .i64 ((m:Int) - 9 - sumT A 32)) /\ w = w':=by
 obtain ⟨z,hz⟩:∃ z,z = sumT A 32:=⟨_,rfl⟩
 rw [<- hz]
 have HZ:Hid (∀ j,j = 32 -> sumT A j = z):=hid (fun j hj=>by rw [hj,hz])
 clear hz
 have HC:=hid (rv_cells hL)
 have c0:=HC.out.1
 have c1:=HC.out.2.1
 have HA:=hid hA
 have HM:=hid hm
 have wr0:IntKind.i64.wrap ((m:Int) - 9) = (m:Int) - 9:=by rw [IntKind.wrap_i64] <;> omega
 clear hL hA hm
 go_enter Tryz.func201,Tryz.ntmps201
 go_wp2_with fail
 go_loopw [3,4] (fun s3 s4 wr=>∃ (j:Nat) (y:Int),j <= 32 /\ Hid (y = (m:Int) - 9 - sumT A j) /\ s3 = .int .i64 y /\ s4 = .int .i64 j /\ wr = w) (fun _ s4 _=>32 - (intOf s4).toNat)
 case atStart=>exact ⟨0,(m:Int) - 9,Nat.zero_le _,hid (by simp [sumT]),rfl,rfl,rfl⟩
 case round =>
  obtain ⟨j,y,hj,HY,rfl,rfl,hwr⟩:=hrel
  rw [hwr]
  clear hwr
  by_cases hlt:j < 32
  ·obtain ⟨_,_,d2⟩:=HC.out.2.2 j hlt
   have hle:=sumT_le' HA.out (j + 1) hlt
   have hl2:=HA.out j hlt
   have hlt2:(j:Int) < 32:=by omega
   have hm:=HM.out
   have hss:sumT A (j + 1) = sumT A j + takesP (A j).data.length:=rfl
   have hds:=dataB_size (A j)
   have hy:=HY.out
   obtain ⟨y2,hy2⟩:∃ y2:Int,y2 = (m:Int) - 9 - sumT A (j + 1):=⟨_,rfl⟩
   have wr1:IntKind.i64.wrap (y - (takesP (A j).data.length:Int)) = y2:=by rw [IntKind.wrap_i64] <;> omega
   have HY2:=hid hy2
   have HT:=hid (rtakes_calls (A j).data.length (by omega))
   rw [<- hds] at HT wr1
   generalize dataB (A j) = db at *
   generalize takesP db.size = tk at *
   clear hle hl2 hm hss hds hy hy2 HY
   go_wp2_with fail
   refine (HT.out _).mono ?_
   rintro e w2 ⟨rfl,rfl⟩
   go_wp2_with fail
   go_roundw
   case rel=>exact ⟨j + 1,y2,hlt,HY2,rfl,by go_num,by first | trivial | rfl⟩
   case measure=>simp [intOf];omega
  ·have hzz:y = (m:Int) - 9 - z:=by rw [HY.out,HZ.out j (by omega)]
   have HZZ:=hid hzz
   clear hzz HZ HA HC HY
   go_wp2_with fail
   go_ret
   first | exact ⟨rfl,rfl⟩ | exact ⟨by rw [HZZ.out];rfl,rfl⟩
end
end Go.Proofs.YtngalllaiphkhaaGreatDoor
