import Derived.Test.YtngalllaiphkhaaGreatDoorYMH
import Derived.Deep.RegionHeld3
namespace Go.Proofs.YtngalllaiphkhaaGreatDoor
open Go.RowKit
open Go.Lib (hid)
set_option maxRecDepth 100000
set_option maxHeartbeats 16000000
structure Ino where
 kind:Nat
 links:Nat
 size:Nat
 a0:Nat
 a1:Nat
 a2:Nat
 a3:Nat
 a4:Nat
 a5:Nat
 deriving DecidableEq
def Ino.free:Ino:=⟨0,0,0,0,0,0,0,0,0⟩
def Ino.atL (x:Ino):List Nat:=[x.a0,x.a1,x.a2,x.a3,x.a4,x.a5]
def Ino.get (x:Ino) (k:Nat):Nat:=x.atL.getD k 0
def Ino.put (x:Ino) (k v:Nat):Ino :=
 match k with
 | 0=>{ x with a0:=v } | 1=>{ x with a1:=v } | 2=>{ x with a2:=v } | 3=>{ x with a3:=v } | 4=>{ x with a4:=v } | _=>{ x with a5:=v }
def twoAt (s:ByteArray) (i:Nat):Nat:=byteAt s i + 256 * byteAt s (i + 1)
def decodeP (s:ByteArray):Ino:=⟨byteAt s 0,byteAt s 1,twoAt s 2,twoAt s 4,twoAt s 6,twoAt s 8,twoAt s 10,twoAt s 12,twoAt s 14⟩
def encodeL (x:Ino):List UInt8:=leBytes x.kind 1 ++ (leBytes x.links 1 ++ (leBytes x.size 2 ++ x.atL.flatMap fun n=>leBytes n 2))
def encodeP (x:Ino):ByteArray:=⟨(encodeL x).toArray⟩
def sectorsP (n:Nat):Nat:=(n + 63) / 64
def takesP (n:Nat):Nat:=if 5 < sectorsP n then sectorsP n + 1 else sectorsP n
section
variable (L:LSt)
def vget (i:Int):ByteArray:=if L.getE i = 0 then L.getS i else nought
def patched (old:ByteArray) (off:Nat) (s:ByteArray):ByteArray:=old.extract 0 off ++ s ++ old.extract (off + s.size) old.size
def vpatch (i:Int) (off:Nat) (s:ByteArray):LSt:=L.set i (patched (vget L i) off s)
def vinode (n:Nat):Ino:=decodeP ((vget L (1 + n / 4:Nat)).extract (n % 4 * 16) (n % 4 * 16 + 16))
def vkeep (n:Nat) (x:Ino):LSt:=vpatch L (1 + n / 4:Nat) (n % 4 * 16) (encodeP x)
def usedP (m:ByteArray) (i:Nat):Bool:=byteAt m (i / 8) / 2 ^ (i % 8) % 2 == 1
def markB (b k:Nat) (is:Bool):Nat:=if is then b ||| 2 ^ k else b - (if b / 2 ^ k % 2 = 1 then 2 ^ k else 0)
def vmark (i:Nat) (is:Bool):LSt:=vpatch L 0 (i / 8) ⟨#[UInt8.ofNat (markB (byteAt (vget L 0) (i / 8)) (i % 8) is)]⟩
def homeN:Nat:=L.D.safe.length - 32
def vtakeN:Nat:=((List.range (homeN L)).find? fun i=>decide (9 <= i) && !usedP (vget L 0) i).getD 0
def vtake:LSt:=if vtakeN L = 0 then L else vmark L (vtakeN L) true
def vat (x:Ino) (k:Nat):Nat:=if k < 5 then x.get k else twoAt (vget L x.a5) (2 * (k - 5))
def vsetL (x:Ino) (k v:Nat):LSt:=if k < 5 then L else vpatch L x.a5 (2 * (k - 5)) ⟨(leBytes v 2).toArray⟩
def vsetX (x:Ino) (k v:Nat):Ino:=if k < 5 then x.put k v else x
def vroom:Nat:=((List.range (homeN L)).filter fun i=>!usedP (vget L 0) i).length
def vfullB:Bool:=decide (16 < L.count)
def vfindE (n:Int):Int:=if L.getE 0 ≠ 0 then L.getE 0 else if n < 0 \/ 32 <= n then 1 else if (vinode L n.toNat).kind = 0 then 5 else 0
def vfindX (n:Int):Ino:=if vfindE L n = 0 then vinode L n.toNat else Ino.free
end
def vformat (L:LSt):LSt:=(List.range 9).foldl (fun L i=>vmark L i true) ((List.range 9).foldl (fun L i=>L.set (i:Nat) nought) L)
def vnewE (L:LSt) (kind:Int):Int:=if L.getE 0 ≠ 0 then L.getE 0 else if kind ≠ 1 /\ kind ≠ 2 then 1 else if vfullB L = true then 4 else if ((List.range 32).find? fun n=>(vinode L n).kind == 0).isNone then 4 else 0
def vnewN (L:LSt):Nat:=((List.range 32).find? fun n=>(vinode L n).kind == 0).getD 0
def vnew (L:LSt) (kind:Int):LSt:=if vnewE L kind = 0 then vkeep L (vnewN L) { Ino.free with kind:=kind.toNat } else L
def vcutStep (left:Nat) (p:LSt × Ino) (k:Nat):LSt × Ino:=if left <= k then (let i:=vat p.1 p.2 k;let M:=vmark p.1 i false;(vsetL M p.2 k 0,vsetX p.2 k 0)) else p
def vcut (L:LSt) (x:Ino) (size:Nat):LSt × Ino :=
 let p:=(List.range (sectorsP x.size)).foldl (vcutStep (sectorsP size)) (L,x)
 let q:=if 5 < sectorsP x.size /\ sectorsP size <= 5 then (vmark p.1 p.2.a5 false,p.2.put 5 0) else p
 (q.1,{ q.2 with size:=size })
def vfreeE (L:LSt) (n:Int):Int:=if vfindE L n ≠ 0 then vfindE L n else if vfullB L = true then 4 else 0
def vfree (L:LSt) (n:Int):LSt:=if vfreeE L n = 0 then vkeep (vcut L (vfindX L n) 0).1 n.toNat Ino.free else L
def vlinkE (L:LSt) (n by_:Int):Int:=if vfindE L n ≠ 0 then vfindE L n else if by_ < -255 \/ 255 < by_ \/ (vfindX L n).links + by_ < 0 \/ 255 < (vfindX L n).links + by_ then 15 else if vfullB L = true then 4 else 0
def vlink (L:LSt) (n by_:Int):LSt:=if vlinkE L n by_ = 0 then vkeep L n.toNat { vfindX L n with links:=((vfindX L n).links + by_).toNat } else L
def vbytes (L:LSt) (x:Ino):ByteArray:=(List.range (sectorsP x.size)).foldl (fun b k=>b ++ vget L (vat L x k)) ByteArray.empty
def vreadE (L:LSt) (n off many:Int):Int:=if vfindE L n ≠ 0 then vfindE L n else if off < 0 \/ many < 0 then 1 else 0
def vreadS (L:LSt) (n off many:Int):ByteArray:=if vreadE L n off many ≠ 0 then ByteArray.empty else
 let s:=(vbytes L (vfindX L n)).extract 0 (vfindX L n).size
 let o:=min off.toNat s.size
 s.extract o (o + min many.toNat (s.size - o))
def vgrow (p:LSt × Ino) (k:Nat):LSt × Ino :=
 let i:=vtakeN p.1
 let M:=(vtake p.1).set i nought
 (vsetL M p.2 k i,vsetX p.2 k i)
def vindirect (L:LSt) (x:Ino) (size:Nat):LSt × Ino:=if 5 < sectorsP size /\ x.a5 = 0 then ((vtake L).set (vtakeN L) nought,x.put 5 (vtakeN L)) else (L,x)
def vgrown (L:LSt) (x:Ino) (size:Nat):LSt × Ino :=
 let p:=vindirect L x size
 let q:=(List.range (sectorsP size - sectorsP x.size)).foldl (fun q j=>vgrow q (sectorsP x.size + j)) p
 (q.1,{ q.2 with size:=size })
def vput (x:Ino):Nat -> LSt -> Nat -> ByteArray -> LSt
 | 0,L,_,_=>L
 | fuel + 1,L,off,s=>if s.size = 0 then L else
  let n:=min s.size (64 - off % 64)
  vput x fuel (vpatch L (vat L x (off / 64)) (off % 64) (s.extract 0 n)) (off + n) (s.extract n s.size)
def vwriteE (L:LSt) (n off:Int) (s:ByteArray):Int :=
 if vfindE L n ≠ 0 then vfindE L n else if off < 0 \/ (vfindX L n).size < off \/ 512 < s.size then 1 else if 2368 < off + s.size then 15 else if vfullB L = true then 4 else
 if (vroom L:Int) < (takesP (max (vfindX L n).size (off.toNat + s.size)):Int) - takesP (vfindX L n).size then 4 else 0
def vwrite (L:LSt) (n off:Int) (s:ByteArray):LSt:=if vwriteE L n off s = 0 then
 (let p:=vgrown L (vfindX L n) (max (vfindX L n).size (off.toNat + s.size));vkeep (vput p.2 s.size p.1 off.toNat s) n.toNat p.2) else L
abbrev tVol:Nat:=168
abbrev VV (S0:Nat -> Prop) (w0:World) (v b d:Nat) (L:LSt) (B:Asr) (w:World):Prop:=LV S0 w0 b d L (Star (blkA v tVol [.pointer (some ⟨b,0,none⟩)]) B) w
structure VOk (L:LSt):Prop where
 ok:L.Ok
 wait:L.D.wait.length <= 70
 disk:L.D.Ok
theorem getS_size {L:LSt} (h:VOk L) {i:Int} (hE:L.getE i = 0):(L.getS i).size = 64:=by
 unfold LSt.getE at hE
 split at hE
 ·exact absurd hE (by assumption)
 ·rename_i hm
  have hm:L.mayE i = 0:=by simpa using hm
  obtain ⟨_,h0,h1⟩:=may_zero hm
  unfold LSt.getS
  rw [if_neg (by simpa using hm)]
  cases hat:L.stg.at i.toNat with
  | some s=>exact h.ok.size _ (at_mem hat)
  | none =>
   rw [hat] at hE
   have hE:L.D.readE (32 + i) = 0:=hE
   show (L.D.readS (32 + i)).size = 64
   unfold DSt.readE at hE
   split at hE
   ·cases hE
   ·rename_i ho
    split at hE
    ·cases hE
    ·rename_i hr
     unfold DSt.readS
     rw [if_neg ho,if_neg hr]
     rcases L.D.sec_cases (i:=(32 + i).toNat) (by omega) with ⟨s,h1,h2,_⟩ | ⟨s,h1,h2,_⟩
     ·rw [h2];exact h.disk.size s (List.mem_of_getElem? h1)
     ·rw [h2];exact h.disk.wsize _ h1
theorem vget_size {L:LSt} (h:VOk L) (i:Int):(vget L i).size = 64:=by
 unfold vget
 split
 ·exact getS_size h (by assumption)
 ·exact nought_size
theorem vok_set {L:LSt} (h:VOk L) (i:Int) (s:ByteArray):VOk (L.set i s):=by
 obtain ⟨e1,e2⟩:=set_D L i s
 exact ⟨set_good h.ok i s,by rw [e1];exact h.wait,by rw [e1];exact h.disk⟩
theorem vok_patch {L:LSt} (h:VOk L) (i:Int) (off:Nat) (s:ByteArray):VOk (vpatch L i off s):=vok_set h _ _
section
variable {S0:Nat -> Prop} {w0 w:World} {v b d:Nat} {L:LSt} {B:Asr}
theorem VV.cell (h:VV S0 w0 v b d L B w):w.cell? ⟨v,0,none⟩ = some (.pointer (some ⟨b,0,none⟩)):=by
 obtain ⟨_,⟨_,_,_,⟨_,_,_,⟨_,_,h,_⟩,_⟩,_⟩,_⟩:=h
 exact h.1.cell (j:=0) rfl
theorem VV.locB (hB:Loc B):Loc (Star (blkA v tVol [.pointer (some ⟨b,0,none⟩)]) B):=loc_star (loc_blk _ _ _) hB
theorem VV.loc (hB:Loc B):Loc (Star (lgA b d L.stg L.dead) (Star (dskA kD d L.D) (Star (blkA v tVol [.pointer (some ⟨b,0,none⟩)]) B))):=LV.loc (VV.locB hB)
theorem vnought_calls (w:World):Calls Tryz.prog 99 #[] w fun e w'=>e = .returned (.string nought) /\ Fr Nob w w':=by
 have HR:Hid (Calls Tryz.prog 58 #[.string ⟨#[0]⟩,.int .i64 64] w fun e w'=>e = .returned (.string nought) /\ Below w.heap.size w w') :=
  hid (Tryz.strings_Repeat (⟨#[0]⟩:ByteArray) 64 w (by omega) (by decide))
 go_enter Tryz.func99,Tryz.ntmps99
 go_wp2_with fail
 refine HR.out.mono ?_
 rintro e w1 ⟨rfl,hb⟩
 go_wp2_with fail
 go_ret
 exact ⟨rfl,Fr.of_below hb (fun _ h _=>h)⟩
theorem vget_calls (hL:VV S0 w0 v b d L B w) (hB:Loc B) (hk:VOk L) (i:Int) :
 Calls Tryz.prog 108 #[.pointer (some ⟨v,0,none⟩),.int .i64 i] w fun e w'=>e = .returned (.string (vget L i)) /\ VV S0 w0 v b d L B w':=by
 have c0:=hL.cell
 have hw:=hk.wait
 have HG:=hid (lv_get hL (VV.locB hB) (by omega) i)
 obtain ⟨gE,hgE⟩:∃ e,e = L.getE i:=⟨_,rfl⟩
 have HE:=hid hgE
 clear hL hk hgE
 by_cases hE:gE = 0
 ·have hv:vget L i = L.getS i:=by unfold vget;rw [if_pos (by rw [<- HE.out];exact hE)]
  rw [hv]
  subst hE
  rw [<- HE.out] at HG
  go_enter Tryz.func108,Tryz.ntmps108
  go_wp2_with fail
  refine HG.out.mono ?_
  rintro e w1 ⟨rfl,L1⟩
  go_wp2_with fail
  go_ret
  exact ⟨rfl,L1⟩
 ·have hv:vget L i = nought:=by unfold vget;rw [if_neg (by rw [<- HE.out];exact hE)]
  rw [hv]
  have hE':(gE == 0) = false:=by rw [beq_eq_false_iff_ne];exact hE
  rw [<- HE.out] at HG
  clear hE
  go_enter Tryz.func108,Tryz.ntmps108
  go_wp2_with fail
  refine HG.out.mono ?_
  rintro e w1 ⟨rfl,L1⟩
  go_wp2_with fail
  refine (Lv.calls L1 (VV.loc hB) (vnought_calls _)).mono ?_
  rintro e w2 ⟨rfl,L2⟩
  go_wp2_with fail
  go_ret
  exact ⟨rfl,L2⟩
theorem valive_calls (hL:VV S0 w0 v b d L B w) (hB:Loc B) (hk:VOk L) :
 Calls Tryz.prog 90 #[.pointer (some ⟨v,0,none⟩)] w fun e w'=>e = .returned (.int .i64 (L.getE 0)) /\ VV S0 w0 v b d L B w':=by
 have c0:=hL.cell
 have hw:=hk.wait
 have HG:=hid (lv_get hL (VV.locB hB) (by omega) 0)
 clear hL hk
 go_enter Tryz.func90,Tryz.ntmps90
 go_wp2_with fail
 refine HG.out.mono ?_
 rintro e w1 ⟨rfl,L1⟩
 go_wp2_with fail
 go_ret
 exact ⟨rfl,L1⟩
theorem vpatch_calls (hL:VV S0 w0 v b d L B w) (hB:Loc B) (hk:VOk L) (i:Int) (off:Nat) (s:ByteArray) (ho:off + s.size <= 64) :
 Calls Tryz.prog 101 #[.pointer (some ⟨v,0,none⟩),.int .i64 i,.int .i64 off,.string s] w fun e w'=>e = .returned (.tuple #[]) /\ VV S0 w0 v b d (vpatch L i off s) B w':=by
 have hsz:=vget_size hk i
 have hszi:((vget L i).size:Int) = 64:=by omega
 have HK:=hid hk
 have hp:vpatch L i off s = L.set i ((vget L i).extract 0 off ++ s ++ (vget L i).extract (off + s.size) 64):=by
  unfold vpatch patched
  rw [hsz]
 rw [hp]
 have HG:=hid (vget_calls hL hB hk i)
 clear hL hk hp
 go_enter Tryz.func101,Tryz.ntmps101
 go_wp2_with fail
 refine HG.out.mono ?_
 rintro e w1 ⟨rfl,L1⟩
 have c1:=L1.cell
 have L2:=Lv.drew L1 (VV.loc hB)
 clear L1
 go_wp2_with fail
 have hwr:IntKind.i64.wrap ((off:Int) + (s.size:Int)) = (off:Int) + (s.size:Int):=by rw [IntKind.wrap_i64];omega
 have hnt:((off:Int) + (s.size:Int)).toNat = off + s.size:=by omega
 have n1:(off:Int) <= 64:=by omega
 have n2:0 <= (off:Int) + (s.size:Int) /\ (off:Int) + (s.size:Int) <= 64:=by omega
 have n3:¬ 9223372036854775807 < min off 64 + s.size:=by omega
 have n4:¬ 9223372036854775807 < min off 64 + s.size + (64 - (off + s.size)):=by omega
 refine wp_region_tail 17 (by kernel_rfl) (by kernel_rfl) ?_
 simp only [List.take_succ_cons,List.take_zero,List.drop_succ_cons,List.drop_zero]
 repeat still_step
 refine wpStill_nil ?_
 go_wp2_with fail
 refine (lv_set L2 (VV.locB hB) HK.out.ok i _).mono ?_
 rintro e w3 ⟨rfl,L3⟩
 go_wp2_with fail
 exact ⟨rfl,.tuple #[],results_none rfl _ _ _,rfl,L3⟩
end
theorem run_index_at {s:ByteArray} {w:World} {i:Int} {k:Nat} (h:i = (k:Int)) (hk:k < s.size):(Instr.index 9 (.string s) (.int .i64 i)).run Tryz.prog w = .ok (.int .u8 ((s[k].toNat:Nat):Int)) w:=by
 subst h
 have h1:s[k]? = some s[k]:=getElem?_pos s k hk
 unfold Instr.index
 simp [run_underlying Tryz.underlying9,asIntOf,Result.andThen,h1]
theorem used_bits (x:Nat) (hx:x < 256) (k:Nat) (hk:k < 8):(bits BinOp.and IntKind.u8 ((x:Int) / 2 ^ k) 1 == 1) = (x / 2 ^ k % 2 == 1):=by
 have h:∀ x:Fin 256,∀ k:Fin 8,(bits BinOp.and IntKind.u8 (((x:Nat):Int) / 2 ^ (k:Nat)) 1 == 1) = ((x:Nat) / 2 ^ (k:Nat) % 2 == 1):=by decide +kernel
 exact h ⟨x,hx⟩ ⟨k,hk⟩
theorem mark_bits (x:Nat) (hx:x < 256) (k:Nat) (hk:k < 8):bits BinOp.andNot IntKind.u8 (x:Int) ((2 ^ k:Nat):Int) = ((markB x k false:Nat):Int) /\ bits BinOp.or IntKind.u8 ((markB x k false:Nat):Int) ((2 ^ k:Nat):Int) = ((markB x k true:Nat):Int) /\ markB x k false < 256 /\ markB x k true < 256:=by
 have h:∀ x:Fin 256,∀ k:Fin 8,bits BinOp.andNot IntKind.u8 ((x:Nat):Int) ((2 ^ (k:Nat):Nat):Int) = ((markB x k false:Nat):Int) /\ bits BinOp.or IntKind.u8 ((markB x k false:Nat):Int) ((2 ^ (k:Nat):Nat):Int) = ((markB x k true:Nat):Int) /\ markB x k false < 256 /\ markB x k true < 256:=by decide +kernel
 exact h ⟨x,hx⟩ ⟨k,hk⟩
theorem wrap_pow (k:Nat) (hk:k < 8):IntKind.u8.wrap (2 ^ k) = ((2 ^ k:Nat):Int):=by
 have h:∀ k:Fin 8,IntKind.u8.wrap (2 ^ (k:Nat)) = ((2 ^ (k:Nat):Nat):Int):=by decide +kernel
 exact h ⟨k,hk⟩
theorem vused_calls {m:ByteArray} (hm:m.size = 64) (i:Nat) (hi:i < 512) (w:World) :
 Calls Tryz.prog 126 #[.string m,.int .i64 i] w fun e w'=>e = .returned (.bool (usedP m i)) /\ w = w':=by
 have i1:i / 8 < m.size:=by omega
 obtain ⟨x,hx⟩:∃ x,x = byteAt m (i / 8):=⟨_,rfl⟩
 have d1:∀ W:World,(Instr.index 9 (.string m) (.int .i64 ((i:Int) / 8))).run Tryz.prog W = .ok (.int .u8 (x:Int)) W:=fun W=>by
  rw [hx,byteAt_get i1];exact run_index_at (by omega) i1
 have hx256:x < 256:=by rw [hx];exact byteAt_lt _ _
 have hwr:IntKind.i64.wrap ((i:Int) / 8) = (i:Int) / 8:=by rw [IntKind.wrap_i64];omega
 have HX:=hid hx
 clear hx i1
 go_enter Tryz.func126,Tryz.ntmps126
 have hb:=used_bits x hx256 (i % 8) (by omega)
 have HB:=hid hb
 clear hb
 go_wp2_with fail
 go_ret
 refine ⟨?_,rfl⟩
 rw [HB.out]
 unfold usedP
 rw [<- HX.out]
 rfl
theorem vmark_calls {S0:Nat -> Prop} {w0 w:World} {v b d:Nat} {L:LSt} {B:Asr} (hL:VV S0 w0 v b d L B w) (hB:Loc B) (hk:VOk L) (i:Nat) (hi:i < 512) (is:Bool) :
 Calls Tryz.prog 137 #[.pointer (some ⟨v,0,none⟩),.int .i64 i,.bool is] w fun e w'=>e = .returned (.tuple #[]) /\ VV S0 w0 v b d (vmark L i is) B w':=by
 have hsz:=vget_size hk 0
 have i1:i / 8 < (vget L 0).size:=by omega
 obtain ⟨x,hx⟩:∃ x,x = byteAt (vget L 0) (i / 8):=⟨_,rfl⟩
 have d1:∀ W:World,(Instr.index 9 (.string (vget L 0)) (.int .i64 ((i:Int) / 8))).run Tryz.prog W = .ok (.int .u8 (x:Int)) W:=fun W=>by
  rw [hx,byteAt_get i1];exact run_index_at (by omega) i1
 have hx256:x < 256:=by rw [hx];exact byteAt_lt _ _
 have hwr:IntKind.i64.wrap ((i:Int) / 8) = (i:Int) / 8:=by rw [IntKind.wrap_i64];omega
 have htm:(i:Int).tmod 8 = ((i % 8:Nat):Int):=by rw [Int.tmod_eq_emod_of_nonneg (by omega)];omega
 have HX:=hid hx
 have HK:=hid hk
 have L1:=Lv.drew hL (VV.loc hB)
 have c0:=hL.cell
 clear hx i1 hL hk hsz
 go_enter Tryz.func137,Tryz.ntmps137
 go_wp2_with fail
 go_region_held3 (fun w'=>w'.cell? ⟨v,0,none⟩ = some (.pointer (some ⟨b,0,none⟩)))
  (first | go_keep | exact t0)
  (first | (go_at_call 108;refine (vget_calls L1 hB HK.out 0).mono ?_;rintro e w3 ⟨rfl,L3⟩;have t0:=VV.cell L3))
 have hkn:((i:Int) % 8).toNat = i % 8:=by omega
 have hP:IntKind.u8.wrap (2 ^ ((i:Int) % 8).toNat) = ((2 ^ (i % 8):Nat):Int):=by rw [hkn];exact wrap_pow _ (by omega)
 obtain ⟨m1,m2,m3,m4⟩:=mark_bits x hx256 (i % 8) (by omega)
 rw [hP,m1]
 have fin:∀ (y:Nat) (is:Bool),y = markB x (i % 8) is -> VV S0 w0 v b d L B w3 -> ∀ o,VOk L /\ VV S0 w0 v b d L B (w3.alloc o) /\ vmark L i is = vpatch L 0 (i / 8) ⟨#[UInt8.ofNat y]⟩:=by
  intro y is hy hv o
  refine ⟨HK.out,Lv.alloc hv (VV.loc hB) o,?_⟩
  unfold vmark
  rw [hy,HX.out]
 have FIN:=hid fin
 have hpw:((2 ^ (i % 8):Nat):Int) = 2 ^ (i % 8):=by simp
 have M2:=hid m2
 obtain ⟨y0,hy0⟩:∃ y,y = markB x (i % 8) false:=⟨_,rfl⟩
 obtain ⟨y1,hy1⟩:∃ y,y = markB x (i % 8) true:=⟨_,rfl⟩
 rw [<- hy0,<- hy1] at M2
 rw [<- hy0] at m3 ⊢
 rw [<- hy1] at m4
 have HY0:=hid hy0
 have HY1:=hid hy1
 have m2':bits BinOp.or IntKind.u8 (y0:Int) ((2:Int) ^ (i % 8) % 256) = (y1:Int):=by
  have hlt:2 ^ (i % 8) < 256:=Nat.lt_of_lt_of_le (Nat.pow_lt_pow_right (by omega) (show i % 8 < 8 by omega)) (by decide)
  have:(2:Int) ^ (i % 8) % 256 = ((2 ^ (i % 8):Nat):Int):=by rw [<- hpw];exact Int.emod_eq_of_lt (Int.natCast_nonneg _) (by exact_mod_cast hlt)
  rw [this];exact M2.out
 have hdiv:(i:Int) / 8 = ((i / 8:Nat):Int):=by omega
 have hd64:i / 8 + 1 <= 64:=by omega
 have pat:∀ (y:Nat) (W:World),VOk L -> VV S0 w0 v b d L B W -> Calls Tryz.prog 101 #[.pointer (some ⟨v,0,none⟩),.int .i64 0,.int .i64 ((i:Int) / 8),.string ⟨#[UInt8.ofNat y]⟩] W fun e w'=>e = .returned (.tuple #[]) /\ VV S0 w0 v b d (vpatch L 0 (i / 8) ⟨#[UInt8.ofNat y]⟩) B w':=by
  intro y W hk hv
  rw [hdiv]
  exact vpatch_calls hv hB hk 0 (i / 8) _ hd64
 have PAT:=hid pat
 have HP:=hid hP
 clear m1 m2 hy0 hy1 fin t0 L1 c0 htm d1 pat hdiv
 cases is with
 | false =>
  have hlen:([(y0:Int)]:List Int).length = 1:=rfl
  have hsrc:∀ j u,(([(y0:Int)]:List Int).map (Value.int .u8))[j]? = some u -> (w3.alloc (.cells #[.int .u8 (y0:Int)] 5)).cell? ((⟨w3.heap.size,0,none⟩:Addr).add j) = some u:=cell_one_new w3 (.int .u8 (y0:Int)) 5
  obtain ⟨f1,f2,f3⟩:=FIN.out y0 false HY0.out L3 (.cells #[.int .u8 (y0:Int)] 5)
  have C1:=hid (PAT.out y0 _ f1 f2)
  have HSRC:=hid hsrc
  have F3:=hid f3
  clear hsrc f1 f2 f3 m2' hP
  go_wp2_with (with_reducible show wpList _ _ _ _ _ _;refine wpList_bytes_string (x:=.tmp 26) rfl rfl Tryz.underlying116 Tryz.underlying5 Tryz.underlying9 rfl hlen HSRC.out ?_;rw [show strOf [(y0:Int)] = ⟨#[UInt8.ofNat y0]⟩ from rfl])
  refine C1.out.mono ?_
  rintro e w5 ⟨rfl,L5⟩
  go_wp2_with fail
  refine ⟨rfl,.tuple #[],results_none rfl _ _ _,rfl,?_⟩
  rw [F3.out]
  exact L5
 | true =>
  have hlen:([(y1:Int)]:List Int).length = 1:=rfl
  have hsrc:∀ j u,(([(y1:Int)]:List Int).map (Value.int .u8))[j]? = some u -> (w3.alloc (.cells #[.int .u8 (y1:Int)] 5)).cell? ((⟨w3.heap.size,0,none⟩:Addr).add j) = some u:=cell_one_new w3 (.int .u8 (y1:Int)) 5
  obtain ⟨f1,f2,f3⟩:=FIN.out y1 true HY1.out L3 (.cells #[.int .u8 (y1:Int)] 5)
  have C1:=hid (PAT.out y1 _ f1 f2)
  have HSRC:=hid hsrc
  have F3:=hid f3
  clear hsrc f1 f2 f3
  go_wp2_with (with_reducible show wpList _ _ _ _ _ _;refine wpList_bytes_string (x:=.tmp 26) rfl rfl Tryz.underlying116 Tryz.underlying5 Tryz.underlying9 rfl hlen HSRC.out ?_;rw [show strOf [(y1:Int)] = ⟨#[UInt8.ofNat y1]⟩ from rfl])
  refine C1.out.mono ?_
  rintro e w5 ⟨rfl,L5⟩
  go_wp2_with fail
  refine ⟨rfl,.tuple #[],results_none rfl _ _ _,rfl,?_⟩
  rw [F3.out]
  exact L5
abbrev tIno:Nat:=161
def inoL (x:Ino):List Value:=[.int .i64 x.kind,.int .i64 x.links,.int .i64 x.size,.int .i64 x.a0,.int .i64 x.a1,.int .i64 x.a2,.int .i64 x.a3,.int .i64 x.a4,.int .i64 x.a5]
def inoV (x:Ino):Value:=.agg (inoL x).toArray
theorem twoAt_lt (s:ByteArray) (i:Nat):twoAt s i < 65536:=by
 have:=byteAt_lt s i
 have:=byteAt_lt s (i + 1)
 unfold twoAt
 omega
theorem le_at {s:ByteArray} {i:Nat} (h:i + 2 <= s.size):leNat (s.extract i (i + 2)).data.toList = twoAt s i:=by
 have e:(s.extract i (i + 2)).data.toList = [s[i]'(by omega),s[i + 1]'(by omega)]:=by
  apply List.ext_getElem?
  intro j
  rw [ByteArray.data_extract,Array.toList_extract,List.extract_eq_take_drop]
  rw [List.getElem?_take,List.getElem?_drop]
  match j with
  | 0=>rw [if_pos (by omega),byte_at (by omega)];rfl
  | 1=>rw [if_pos (by omega),byte_at (by omega)];rfl
  | j + 2=>rw [if_neg (by omega)];rfl
 rw [e]
 unfold twoAt
 rw [byteAt_get (by omega),byteAt_get (by omega)]
 simp [leNat]
structure Ino.Fits (x:Ino):Prop where
 kind:x.kind < 65536
 links:x.links < 65536
 size:x.size < 65536
 a0:x.a0 < 65536
 a1:x.a1 < 65536
 a2:x.a2 < 65536
 a3:x.a3 < 65536
 a4:x.a4 < 65536
 a5:x.a5 < 65536
def encTo (x:Ino) (k:Nat):List UInt8:=leBytes x.kind 1 ++ (leBytes x.links 1 ++ (leBytes x.size 2 ++ (x.atL.take k).flatMap fun n=>leBytes n 2))
theorem encTo_all (x:Ino):(⟨(encTo x 6).toArray⟩:ByteArray) = encodeP x:=rfl
theorem bytes_append (l k:List UInt8):(⟨l.toArray⟩:ByteArray) ++ ⟨k.toArray⟩ = ⟨(l ++ k).toArray⟩:=by
 apply ByteArray.ext
 rw [ByteArray.data_append]
 simp
theorem encTo_zero (x:Ino):(⟨(leBytes x.kind 1).toArray⟩:ByteArray) ++ ⟨(leBytes x.links 1).toArray⟩ ++ ⟨(leBytes x.size 2).toArray⟩ = ⟨(encTo x 0).toArray⟩:=by
 rw [bytes_append,bytes_append]
 unfold encTo
 simp
theorem encTo_succ (x:Ino) (k:Nat) (hk:k < 6):(⟨(encTo x k).toArray⟩:ByteArray) ++ ⟨(leBytes (x.get k) 2).toArray⟩ = ⟨(encTo x (k + 1)).toArray⟩:=by
 rw [bytes_append]
 have h:x.atL[k]? = some (x.get k):=by
  unfold Ino.get
  rw [List.getD,List.getElem?_eq_getElem (by simpa [Ino.atL] using hk)]
  rfl
 unfold encTo
 rw [List.take_add_one,h]
 simp
theorem encTo_length (x:Ino) (k:Nat) (hk:k <= 6):(encTo x k).length = 4 + 2 * k:=by
 unfold encTo
 rw [List.length_append,List.length_append,List.length_append,leBytes_length,leBytes_length,leBytes_length]
 have h:∀ l:List Nat,(l.flatMap fun n=>leBytes n 2).length = 2 * l.length:=by
  intro l
  induction l with
  | nil=>rfl
  | cons y l ih=>rw [List.flatMap_cons,List.length_append,ih,leBytes_length];simp;omega
 rw [h,List.length_take]
 have:x.atL.length = 6:=rfl
 omega
theorem size_of_list (l:List UInt8):(⟨l.toArray⟩:ByteArray).size = l.length:=by
 show l.toArray.size = l.length
 simp
theorem vencode_calls (x:Ino) (hx:x.Fits) (w:World) :
 Calls Tryz.prog 155 #[inoV x] w fun e w'=>e = .returned (.string (encodeP x)) /\ Fr Nob w w':=by
 have wr:∀ n:Nat,n < 65536 -> IntKind.u64.wrap ((n:Nat):Int) = ((n:Nat):Int):=fun n hn=>by rw [wraps_u64 _ (by omega) (by omega)]
 have e_kind:=wr x.kind hx.kind
 have e_links:=wr x.links hx.links
 have e_size:=wr x.size hx.size
 have e_a0:=wr x.a0 hx.a0
 have e_a1:=wr x.a1 hx.a1
 have e_a2:=wr x.a2 hx.a2
 have e_a3:=wr x.a3 hx.a3
 have e_a4:=wr x.a4 hx.a4
 have e_a5:=wr x.a5 hx.a5
 have hby:∀ (v n:Nat) (W:World),1 <= n -> n <= 8 -> v < 65536 -> Calls Tryz.prog 103 #[.int .u64 v,.int .i64 n] W fun e w'=>e = .returned (.string ⟨(leBytes v n).toArray⟩) /\ Fr Nob W w':=fun v n W h1 h2 hv=>wbytes_calls v n W h1 h2 (by omega)
 have HBY:=hid hby
 have HX:=hid hx
 clear wr hby hx
 have hsz:∀ (l:List UInt8),(⟨l.toArray⟩:ByteArray).size = l.length:=size_of_list
 have HSZ:=hid hsz
 clear hsz
 show Calls Tryz.prog 155 #[.agg #[.int .i64 x.kind,.int .i64 x.links,.int .i64 x.size,.int .i64 x.a0,.int .i64 x.a1,.int .i64 x.a2,.int .i64 x.a3,.int .i64 x.a4,.int .i64 x.a5]] w _
 go_enter Tryz.func155,Tryz.ntmps155
 go_wp2_with fail
 have hb0:=Blk.new w tIno (inoL x)
 have hf0:Fr Nob w (w.alloc (.cells (inoL x).toArray tIno)):=(Fr.refl _ _).alloc _
 have hsame:w.alloc (.cells #[.int .i64 x.kind,.int .i64 x.links,.int .i64 x.size,.int .i64 x.a0,.int .i64 x.a1,.int .i64 x.a2,.int .i64 x.a3,.int .i64 x.a4,.int .i64 x.a5] tIno) = w.alloc (.cells (inoL x).toArray tIno):=rfl
 rw [hsame]
 generalize w.alloc (.cells (inoL x).toArray tIno) = w1 at *
 have hcp0:∀ p:FrFrom w1,p.w.cell? ⟨w.heap.size,0,none⟩ = some (.int .i64 x.kind):=fun p=>p.fr.cell (hb0.cell (j:=0) rfl) (fun h=>h)
 have hcp1:∀ p:FrFrom w1,p.w.cell? ⟨w.heap.size,1,none⟩ = some (.int .i64 x.links):=fun p=>p.fr.cell (hb0.cell (j:=1) rfl) (fun h=>h)
 have hcp2:∀ p:FrFrom w1,p.w.cell? ⟨w.heap.size,2,none⟩ = some (.int .i64 x.size):=fun p=>p.fr.cell (hb0.cell (j:=2) rfl) (fun h=>h)
 have HB0:=hid hb0
 have HF0:=hid hf0
 have l1:(⟨(leBytes x.kind 1).toArray⟩:ByteArray).size = 1:=by rw [HSZ.out,leBytes_length]
 have l2:(⟨(leBytes x.links 1).toArray⟩:ByteArray).size = 1:=by rw [HSZ.out,leBytes_length]
 have l3:(⟨(leBytes x.size 2).toArray⟩:ByteArray).size = 2:=by rw [HSZ.out,leBytes_length]
 clear hsame hb0 hf0
 refine wp_region_from (by kernel_rfl) (by kernel_rfl) ?_
 repeat (quiet_step (first | (go_at_call_of 103 (Value.int IntKind.u64 x.kind);exact Calls.frfrom (HBY.out x.kind 1 _ (by omega) (by omega) HX.out.kind)) | (go_at_call_of 103 (Value.int IntKind.u64 x.links);exact Calls.frfrom (HBY.out x.links 1 _ (by omega) (by omega) HX.out.links)) | (go_at_call_of 103 (Value.int IntKind.u64 x.size);exact Calls.frfrom (HBY.out x.size 2 _ (by omega) (by omega) HX.out.size))))
 refine wpQuiet_nil ?_
 rintro _ ⟨p,rfl⟩
 rw [encTo_zero]
 have hbp:=HB0.out.fr p.fr (fun h=>h)
 have c3:=hbp.cell (j:=3) rfl
 have c4:=hbp.cell (j:=4) rfl
 have c5:=hbp.cell (j:=5) rfl
 have c6:=hbp.cell (j:=6) rfl
 have c7:=hbp.cell (j:=7) rfl
 have c8:=hbp.cell (j:=8) rfl
 have HFP:=hid (HF0.out.trans p.fr)
 obtain ⟨w2,hw2⟩:∃ w2,w2 = p.w:=⟨_,rfl⟩
 rw [<- hw2] at c3 c4 c5 c6 c7 c8 HFP ⊢
 clear hcp0 hcp1 hcp2 hbp hw2 l1 l2 l3 HB0 HF0
 obtain ⟨t0,ht0⟩:∃ t0:ByteArray,t0 = ⟨(encTo x 0).toArray⟩:=⟨_,rfl⟩
 rw [<- ht0]
 have HT0:=hid ht0
 clear ht0
 have i0:∀ W:World,(Instr.index 159 (.agg #[.int .i64 x.a0,.int .i64 x.a1,.int .i64 x.a2,.int .i64 x.a3,.int .i64 x.a4,.int .i64 x.a5]) (.int .i64 0)).run Tryz.prog W = .ok (.int .i64 x.a0) W:=fun _=>by kernel_rfl
 have i1:∀ W:World,(Instr.index 159 (.agg #[.int .i64 x.a0,.int .i64 x.a1,.int .i64 x.a2,.int .i64 x.a3,.int .i64 x.a4,.int .i64 x.a5]) (.int .i64 1)).run Tryz.prog W = .ok (.int .i64 x.a1) W:=fun _=>by kernel_rfl
 have i2:∀ W:World,(Instr.index 159 (.agg #[.int .i64 x.a0,.int .i64 x.a1,.int .i64 x.a2,.int .i64 x.a3,.int .i64 x.a4,.int .i64 x.a5]) (.int .i64 2)).run Tryz.prog W = .ok (.int .i64 x.a2) W:=fun _=>by kernel_rfl
 have i3:∀ W:World,(Instr.index 159 (.agg #[.int .i64 x.a0,.int .i64 x.a1,.int .i64 x.a2,.int .i64 x.a3,.int .i64 x.a4,.int .i64 x.a5]) (.int .i64 3)).run Tryz.prog W = .ok (.int .i64 x.a3) W:=fun _=>by kernel_rfl
 have i4:∀ W:World,(Instr.index 159 (.agg #[.int .i64 x.a0,.int .i64 x.a1,.int .i64 x.a2,.int .i64 x.a3,.int .i64 x.a4,.int .i64 x.a5]) (.int .i64 4)).run Tryz.prog W = .ok (.int .i64 x.a4) W:=fun _=>by kernel_rfl
 have i5:∀ W:World,(Instr.index 159 (.agg #[.int .i64 x.a0,.int .i64 x.a1,.int .i64 x.a2,.int .i64 x.a3,.int .i64 x.a4,.int .i64 x.a5]) (.int .i64 5)).run Tryz.prog W = .ok (.int .i64 x.a5) W:=fun _=>by kernel_rfl
 go_wp2_with fail
 go_loopw [3,5,22] (fun s3 _ s22 wr=>∃ (k:Nat) (t:ByteArray),k <= 6 /\ s22 = .int .i64 k /\ s3 = .string t /\ Hid (t = ⟨(encTo x k).toArray⟩) /\ Hid (Fr Nob w wr)) (fun _ _ s22 _=>6 - (intOf s22).toNat)
 case atStart=>exact ⟨0,t0,by omega,rfl,rfl,HT0,HFP⟩
 case round =>
  obtain ⟨k,t,hk,rfl,rfl,HT,HF⟩:=hrel
  clear HT0 HFP
  obtain rfl | rfl | rfl | rfl | rfl | rfl | rfl:k = 0 \/ k = 1 \/ k = 2 \/ k = 3 \/ k = 4 \/ k = 5 \/ k = 6:=by omega
  ·have l1:t.size = 4:=by rw [HT.out,HSZ.out,encTo_length x 0 (by omega)]
   have l2:(⟨(leBytes x.a0 2).toArray⟩:ByteArray).size = 2:=by rw [HSZ.out,leBytes_length]
   clear hk
   go_wp2_with fail
   refine (HBY.out x.a0 2 _ (by omega) (by omega) HX.out.a0).mono ?_
   rintro e w5 ⟨rfl,hf5⟩
   have HF5:=hid (HF.out.trans hf5)
   have HT5:Hid (t ++ ⟨(leBytes x.a0 2).toArray⟩ = ⟨(encTo x 1).toArray⟩):=by rw [HT.out];exact encTo_succ x 0 (by omega)
   clear hf5
   go_wp2_with fail
   go_roundw
   case rel=>exact ⟨1,_,by omega,rfl,rfl,HT5,HF5⟩
   case measure=>simp [intOf]
  ·have l1:t.size = 6:=by rw [HT.out,HSZ.out,encTo_length x 1 (by omega)]
   have l2:(⟨(leBytes x.a1 2).toArray⟩:ByteArray).size = 2:=by rw [HSZ.out,leBytes_length]
   clear hk
   go_wp2_with fail
   refine (HBY.out x.a1 2 _ (by omega) (by omega) HX.out.a1).mono ?_
   rintro e w5 ⟨rfl,hf5⟩
   have HF5:=hid (HF.out.trans hf5)
   have HT5:Hid (t ++ ⟨(leBytes x.a1 2).toArray⟩ = ⟨(encTo x 2).toArray⟩):=by rw [HT.out];exact encTo_succ x 1 (by omega)
   clear hf5
   go_wp2_with fail
   go_roundw
   case rel=>exact ⟨2,_,by omega,rfl,rfl,HT5,HF5⟩
   case measure=>simp [intOf]
  ·have l1:t.size = 8:=by rw [HT.out,HSZ.out,encTo_length x 2 (by omega)]
   have l2:(⟨(leBytes x.a2 2).toArray⟩:ByteArray).size = 2:=by rw [HSZ.out,leBytes_length]
   clear hk
   go_wp2_with fail
   refine (HBY.out x.a2 2 _ (by omega) (by omega) HX.out.a2).mono ?_
   rintro e w5 ⟨rfl,hf5⟩
   have HF5:=hid (HF.out.trans hf5)
   have HT5:Hid (t ++ ⟨(leBytes x.a2 2).toArray⟩ = ⟨(encTo x 3).toArray⟩):=by rw [HT.out];exact encTo_succ x 2 (by omega)
   clear hf5
   go_wp2_with fail
   go_roundw
   case rel=>exact ⟨3,_,by omega,rfl,rfl,HT5,HF5⟩
   case measure=>simp [intOf]
  ·have l1:t.size = 10:=by rw [HT.out,HSZ.out,encTo_length x 3 (by omega)]
   have l2:(⟨(leBytes x.a3 2).toArray⟩:ByteArray).size = 2:=by rw [HSZ.out,leBytes_length]
   clear hk
   go_wp2_with fail
   refine (HBY.out x.a3 2 _ (by omega) (by omega) HX.out.a3).mono ?_
   rintro e w5 ⟨rfl,hf5⟩
   have HF5:=hid (HF.out.trans hf5)
   have HT5:Hid (t ++ ⟨(leBytes x.a3 2).toArray⟩ = ⟨(encTo x 4).toArray⟩):=by rw [HT.out];exact encTo_succ x 3 (by omega)
   clear hf5
   go_wp2_with fail
   go_roundw
   case rel=>exact ⟨4,_,by omega,rfl,rfl,HT5,HF5⟩
   case measure=>simp [intOf]
  ·have l1:t.size = 12:=by rw [HT.out,HSZ.out,encTo_length x 4 (by omega)]
   have l2:(⟨(leBytes x.a4 2).toArray⟩:ByteArray).size = 2:=by rw [HSZ.out,leBytes_length]
   clear hk
   go_wp2_with fail
   refine (HBY.out x.a4 2 _ (by omega) (by omega) HX.out.a4).mono ?_
   rintro e w5 ⟨rfl,hf5⟩
   have HF5:=hid (HF.out.trans hf5)
   have HT5:Hid (t ++ ⟨(leBytes x.a4 2).toArray⟩ = ⟨(encTo x 5).toArray⟩):=by rw [HT.out];exact encTo_succ x 4 (by omega)
   clear hf5
   go_wp2_with fail
   go_roundw
   case rel=>exact ⟨5,_,by omega,rfl,rfl,HT5,HF5⟩
   case measure=>simp [intOf]
  ·have l1:t.size = 14:=by rw [HT.out,HSZ.out,encTo_length x 5 (by omega)]
   have l2:(⟨(leBytes x.a5 2).toArray⟩:ByteArray).size = 2:=by rw [HSZ.out,leBytes_length]
   clear hk
   go_wp2_with fail
   refine (HBY.out x.a5 2 _ (by omega) (by omega) HX.out.a5).mono ?_
   rintro e w5 ⟨rfl,hf5⟩
   have HF5:=hid (HF.out.trans hf5)
   have HT5:Hid (t ++ ⟨(leBytes x.a5 2).toArray⟩ = ⟨(encTo x 6).toArray⟩):=by rw [HT.out];exact encTo_succ x 5 (by omega)
   clear hf5
   go_wp2_with fail
   go_roundw
   case rel=>exact ⟨6,_,by omega,rfl,rfl,HT5,HF5⟩
   case measure=>simp [intOf]
  ·clear hk
   go_wp2_with fail
   go_ret
   refine ⟨?_,HF.out⟩
   rw [<- encTo_all,<- HT.out]
   rfl
theorem vsectors_calls (n:Nat) (hn:n <= 140737488355328) (w:World) :
 Calls Tryz.prog 96 #[.int .i64 n] w fun e w'=>e = .returned (.int .i64 (sectorsP n:Nat)) /\ w = w':=by
 have h1:IntKind.i64.wrap ((n:Int) + 64) = (n:Int) + 64:=by rw [IntKind.wrap_i64];omega
 have h2:IntKind.i64.wrap ((n:Int) + 64 - 1) = (n:Int) + 64 - 1:=by rw [IntKind.wrap_i64];omega
 have h5:((n:Int) + 64 - 1).tdiv 64 = ((sectorsP n:Nat):Int):=by rw [Int.tdiv_eq_ediv_of_nonneg (by omega)];unfold sectorsP;omega
 have h6:IntKind.i64.wrap (((n:Int) + 64 - 1) / 64) = ((sectorsP n:Nat):Int):=by rw [IntKind.wrap_i64] <;> unfold sectorsP <;> omega
 have hn':=hid hn
 clear hn
 go_enter Tryz.func96,Tryz.ntmps96
 go_wp2_with fail
 go_ret
 refine ⟨?_,rfl⟩
 show Ending.returned (Value.int .i64 (wrap64 ((sectorsP n:Nat):Int))) = _
 have hn2:=hn'.out
 have hs:sectorsP n <= 140737488355328:=by unfold sectorsP;omega
 have h7:wrap64 ((sectorsP n:Nat):Int) = ((sectorsP n:Nat):Int):=by unfold wrap64;omega
 rw [h7]
theorem vtakes_calls (n:Nat) (hn:n <= 140737488355328) (w:World) :
 Calls Tryz.prog 94 #[.int .i64 n] w fun e w'=>e = .returned (.int .i64 (takesP n:Nat)) /\ w = w':=by
 have HC:=hid (vsectors_calls n hn w)
 have hs:sectorsP n <= 140737488355328:=by unfold sectorsP;omega
 unfold takesP
 generalize sectorsP n = m at *
 clear hn
 by_cases h:5 < m
 ·rw [if_pos h]
  have h':(5:Int) < (m:Int):=by omega
  go_enter Tryz.func94,Tryz.ntmps94
  go_wp2_with fail
  refine HC.out.mono ?_
  rintro e w1 ⟨rfl,rfl⟩
  go_wp2_with fail
  go_ret
  exact ⟨by first | rfl | (congr 2),rfl⟩
 ·rw [if_neg h]
  have h':¬ (5:Int) < (m:Int):=by omega
  go_enter Tryz.func94,Tryz.ntmps94
  go_wp2_with fail
  refine HC.out.mono ?_
  rintro e w1 ⟨rfl,rfl⟩
  go_wp2_with fail
  go_ret
  exact ⟨rfl,rfl⟩
section
variable {S0:Nat -> Prop} {w0 w:World} {v b d:Nat} {L:LSt} {B:Asr}
theorem vfull_calls (hL:VV S0 w0 v b d L B w) :
 Calls Tryz.prog 91 #[.pointer (some ⟨v,0,none⟩)] w fun e w'=>e = .returned (.bool (vfullB L)) /\ w = w':=by
 have c0:=hL.cell
 have HS:=hid (lv_staged hL)
 have hv:vfullB L = decide ((16:Int) < (L.count:Int)):=by unfold vfullB;rw [decide_eq_decide];omega
 rw [hv]
 clear hL hv
 go_enter Tryz.func91,Tryz.ntmps91
 go_wp2_with fail
 refine HS.out.mono ?_
 rintro e w1 ⟨rfl,rfl⟩
 go_wp2_with fail
 go_ret
 exact ⟨rfl,rfl⟩
def freeTo (m:ByteArray) (k:Nat):Nat:=((List.range k).filter fun i=>!usedP m i).length
theorem freeTo_succ (m:ByteArray) (k:Nat):freeTo m (k + 1) = freeTo m k + if usedP m k = true then 0 else 1:=by
 unfold freeTo
 rw [List.range_succ,List.filter_append,List.length_append]
 cases h:usedP m k <;> simp [h]
theorem freeTo_le (m:ByteArray) (k:Nat):freeTo m k <= k:=by
 unfold freeTo
 exact Nat.le_trans (List.length_filter_le _ _) (by simp)
theorem vroom_calls (hL:VV S0 w0 v b d L B w) (hB:Loc B) (hk:VOk L) :
 Calls Tryz.prog 95 #[.pointer (some ⟨v,0,none⟩)] w fun e w'=>e = .returned (.int .i64 (vroom L:Nat)) /\ VV S0 w0 v b d L B w':=by
 have hsz:=vget_size hk 0
 have h48:=hk.disk.lo48
 have h544:=hk.disk.len
 obtain ⟨n,hn⟩:∃ n,n = homeN L:=⟨_,rfl⟩
 have hnc:(L.D.safe.length:Int) - 32 = (n:Int):=by rw [hn];unfold homeN;omega
 have hn512:n <= 512:=by rw [hn];unfold homeN;omega
 have HN:=hid hn
 have HNC:=hid hnc
 have HG:=hid (vget_calls hL hB hk 0)
 have hro:vroom L = freeTo (vget L 0) n:=by unfold vroom freeTo;rw [hn]
 rw [hro]
 obtain ⟨m,hm⟩:∃ m,m = vget L 0:=⟨_,rfl⟩
 rw [<- hm] at HG hsz ⊢
 clear hn hnc h48 h544 hro hL hk hm
 go_enter Tryz.func95,Tryz.ntmps95
 go_wp2_with fail
 refine HG.out.mono ?_
 rintro e w1 ⟨rfl,L1⟩
 have c0:=L1.cell
 have HH:=hid (lv_home L1)
 rw [HNC.out] at HH
 have HL1:=hid L1
 clear L1
 go_wp2_with fail
 refine HH.out.mono ?_
 rintro e w2 ⟨rfl,rfl⟩
 go_wp2_with fail
 go_loopw [4,13] (fun s4 s13 wr=>∃ k:Nat,k <= n /\ s13 = .int .i64 k /\ s4 = .int .i64 (freeTo m k:Nat) /\ wr = w1) (fun _ s13 _=>n - (intOf s13).toNat)
 case atStart=>exact ⟨0,Nat.zero_le _,rfl,rfl,rfl⟩
 case round =>
  obtain ⟨k,hk,rfl,rfl,rfl⟩:=hrel
  by_cases hlt:k < n
  ·have HU:=hid (vused_calls hsz k (by omega) wr)
   have hfs:=freeTo_succ m k
   have hfl:=freeTo_le m k
   go_wp2_with fail
   refine HU.out.mono ?_
   rintro e w3 ⟨rfl,rfl⟩
   have HFS:=hid hfs
   clear hfs
   cases hu:usedP m k with
   | true =>
    rw [hu,if_pos rfl] at HFS
    go_wp2_with fail
    go_roundw
    case rel=>exact ⟨k + 1,hlt,by go_num,by rw [HFS.out];rfl,by first | rfl | trivial⟩
    case measure=>simp [intOf];omega
   | false =>
    rw [hu,if_neg (by simp)] at HFS
    go_wp2_with fail
    go_roundw
    case rel=>exact ⟨k + 1,hlt,by go_num,by rw [HFS.out];go_num,by first | rfl | trivial⟩
    case measure=>simp [intOf];omega
  ·obtain rfl:k = n:=by omega
   go_wp2_with fail
   go_ret
   exact ⟨rfl,HL1.out⟩
end
theorem takeN_at {L:LSt} {m:ByteArray} {n k:Nat} (hm:m = vget L 0) (hn:n = homeN L) (hk:k < n) (h9:9 <= k) (hu:usedP m k = false) (hall:∀ i,9 <= i -> i < k -> usedP m i = true):vtakeN L = k:=by
 unfold vtakeN
 have:(List.range (homeN L)).find? (fun i=>decide (9 <= i) && !usedP (vget L 0) i) = some k:=by
  rw [List.find?_range_eq_some]
  refine ⟨by rw [<- hm,hu];simp [h9],by rw [<- hn];simpa using hk,fun j hj=>?_⟩
  by_cases h:9 <= j
  ·rw [<- hm,hall j h hj];simp
  ·simp [h]
 rw [this];rfl
theorem takeN_none {L:LSt} {m:ByteArray} {n:Nat} (hm:m = vget L 0) (hn:n = homeN L) (hall:∀ i,9 <= i -> i < n -> usedP m i = true):vtakeN L = 0:=by
 unfold vtakeN
 have:(List.range (homeN L)).find? (fun i=>decide (9 <= i) && !usedP (vget L 0) i) = none:=by
  rw [List.find?_range_eq_none]
  intro i hi
  by_cases h:9 <= i
  ·rw [<- hm,hall i h (by rw [hn];exact hi)];simp
  ·simp [h]
 rw [this];rfl
section
variable {S0:Nat -> Prop} {w0 w:World} {v b d:Nat} {L:LSt} {B:Asr}
theorem vtake_calls (hL:VV S0 w0 v b d L B w) (hB:Loc B) (hk:VOk L) :
 Calls Tryz.prog 97 #[.pointer (some ⟨v,0,none⟩)] w fun e w'=>e = .returned (.int .i64 (vtakeN L:Nat)) /\ VV S0 w0 v b d (vtake L) B w':=by
 have hsz:=vget_size hk 0
 have h48:=hk.disk.lo48
 have h544:=hk.disk.len
 obtain ⟨n,hn⟩:∃ n,n = homeN L:=⟨_,rfl⟩
 have hnc:(L.D.safe.length:Int) - 32 = (n:Int):=by rw [hn];unfold homeN;omega
 have hn512:n <= 512:=by rw [hn];unfold homeN;omega
 have hn16:16 <= n:=by rw [hn];unfold homeN;omega
 have HN:=hid hn
 have HNC:=hid hnc
 have HK:=hid hk
 have HG:=hid (vget_calls hL hB hk 0)
 obtain ⟨m,hm⟩:∃ m,m = vget L 0:=⟨_,rfl⟩
 rw [<- hm] at HG hsz
 have HM:=hid hm
 clear hn hnc h48 h544 hL hk hm
 go_enter Tryz.func97,Tryz.ntmps97
 go_wp2_with fail
 refine HG.out.mono ?_
 rintro e w1 ⟨rfl,L1⟩
 have c0:=L1.cell
 have HH:=hid (lv_home L1)
 rw [HNC.out] at HH
 have HL1:=hid L1
 clear L1
 go_wp2_with fail
 go_loopw [4] (fun s4 wr=>∃ k:Nat,9 <= k /\ k <= n /\ s4 = .int .i64 k /\ (∀ i,9 <= i -> i < k -> usedP m i = true) /\ wr = w1) (fun s4 _=>n - (intOf s4).toNat)
 case atStart=>exact ⟨9,Nat.le_refl _,by omega,rfl,fun i h1 h2=>by omega,rfl⟩
 case round =>
  obtain ⟨k,hk9,hk,rfl,hall,rfl⟩:=hrel
  have HA:=hid hall
  clear hall
  by_cases hlt:k < n
  ·have HU:=hid (vused_calls hsz k (by omega) wr)
   go_wp2_with fail
   refine HH.out.mono ?_
   rintro e w2 ⟨rfl,rfl⟩
   go_wp2_with fail
   refine HU.out.mono ?_
   rintro e w3 ⟨rfl,rfl⟩
   cases hu:usedP m k with
   | true =>
    have HUK:=hid hu
    clear hu
    go_wp2_with fail
    go_roundw
    case rel=>exact ⟨k + 1,by omega,hlt,by go_num,fun i h1 h2=>by
     by_cases h:i = k
     ·rw [h];exact HUK.out
     ·exact HA.out i h1 (by omega),by first | rfl | trivial⟩
    case measure=>simp [intOf];omega
   | false =>
    have ht:=takeN_at HM.out HN.out hlt hk9 hu HA.out
    have hv:vtake L = vmark L k true:=by unfold vtake;rw [ht,if_neg (by omega)]
    have HT:=hid ht
    have HV:=hid hv
    have HMK:=hid (vmark_calls HL1.out hB HK.out k (by omega) true)
    clear hu ht hv
    go_wp2_with fail
    refine HMK.out.mono ?_
    rintro e w4 ⟨rfl,L4⟩
    go_wp2_with fail
    go_ret
    refine ⟨by rw [HT.out];rfl,?_⟩
    rw [HV.out]
    exact L4
  ·obtain rfl:k = n:=by omega
   have ht:=takeN_none HM.out HN.out HA.out
   have hv:vtake L = L:=by unfold vtake;rw [ht,if_pos rfl]
   have HT:=hid ht
   have HV:=hid hv
   clear ht hv
   go_wp2_with fail
   refine HH.out.mono ?_
   rintro e w2 ⟨rfl,rfl⟩
   go_wp2_with fail
   go_ret
   refine ⟨by rw [HT.out];rfl,?_⟩
   rw [HV.out]
   exact HL1.out
end
end Go.Proofs.YtngalllaiphkhaaGreatDoor
