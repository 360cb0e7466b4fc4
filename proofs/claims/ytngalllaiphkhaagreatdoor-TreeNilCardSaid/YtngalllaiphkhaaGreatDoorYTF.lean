import Derived.Test.YtngalllaiphkhaaGreatDoorYTE
namespace Go.Proofs.YtngalllaiphkhaaGreatDoor
open Go.RowKit
open Go.Lib (hid)
set_option maxRecDepth 100000
set_option maxHeartbeats 16000000
set_option linter.unusedVariables false
set_option linter.unusedSimpArgs false
section
variable {S0:Nat -> Prop} {w0 w w':World} {t v b d m c:Nat} {p:Int} {A A0:Nat -> Node} {T:Tr} {B R R':Asr}
theorem VT.out (h:VT c p S0 w0 v b d m A A0 (Star R B) w) (hB:Loc B):∃ Z:Asr,Loc Z /\ Lv S0 w0 (Star R Z) w /\ ∀ (w':World) (R':Asr),Lv S0 w0 (Star R' Z) w' -> VT c p S0 w0 v b d m A A0 (Star R' B) w':=by
 obtain ⟨L,H,X,h1,h2⟩:=h
 exact ⟨_,VV.loc hB,VV.out h1,fun w' R' h=>⟨L,H,X,VV.inn h,h2⟩⟩
theorem star_emp {U:Nat -> Prop} (h:B w U):Star Emp B w U:=⟨Nob,U,trivial,h,fun _ h=>h.elim,fun _ h=>h.elim,fun _ h=>h⟩
theorem TV.more {P:Program} {f:FuncId} {args:Array Value} {Q:Ending -> Asr -> Prop} (h:TV p S0 w0 t v b d m T B w) (hB:Loc B)
 (hc:∀ Z,Loc Z -> Lv S0 w0 Z w -> Calls P f args w fun e w'=>∃ R',Q e R' /\ Lv S0 w0 (Star R' Z) w'):Calls P f args w fun e w'=>∃ R',Q e R' /\ TV p S0 w0 t v b d m T (Star R' B) w':=by
 obtain ⟨Z,h1,h2,h3⟩:=VT.out (R:=Emp) (B:=Star (trA t b v T) B) (h.map fun _ _ h=>star_emp h) (loc_star (loc_blk _ _ _) hB)
 exact (hc Z h1 h2.drop).mono fun e w' ⟨R',hq,hl⟩=>⟨R',hq,VT.flip (h3 w' R' hl)⟩
theorem lfresh_calls (hB:Loc B) (hL:Lv S0 w0 B w) (n:Int) :
 Calls Tryz.prog 37 #[.int .i64 n] w fun e w'=>∃ d t b v r,e = .returned (.tuple #[.pointer (some ⟨d,0,none⟩),.pointer (some ⟨t,0,none⟩),.pointer (some ⟨r,0,none⟩)]) /\ TV (-1) S0 w0 t v b d (freshN n - 32) freshT (Star (docX r (freshN n - 32) freshT) B) w':=by
 obtain ⟨h48,h544⟩:=freshN_le n
 have HFM:Hid (∀ d W,Lv S0 w0 (Star (dskA kD d (DSt.fresh (freshN n))) B) W -> Calls Tryz.prog 33 #[.pointer (some ⟨d,0,none⟩)] W fun e w'=>∃ t b v,e = .returned (.tuple #[.pointer (some ⟨t,0,none⟩),.int .i64 0]) /\ TV (-1) S0 w0 t v b d (freshN n - 32) freshT B w') :=
  hid fun d W hW=>tFormat_calls hW hB
 have HB:=hid hB
 obtain ⟨m,hm⟩:∃ m,m = freshN n:=⟨_,rfl⟩
 rw [<- hm] at h48 h544 HFM ⊢
 have HN:=hid (fun W=>new_ok m W h48 h544)
 obtain ⟨x,hx⟩:∃ x:Int,x = ((m - 32:Nat):Int):=⟨_,rfl⟩
 have HNEW:Hid (∀ (W:World) (d t b v:Nat),TV (-1) S0 w0 t v b d (m - 32) freshT B W -> Calls Tryz.prog 79 #[.int .i64 x] W fun e w'=>∃ r,e = .returned (.pointer (some ⟨r,0,none⟩)) /\ TV (-1) S0 w0 t v b d (m - 32) freshT (Star (docX r (m - 32) freshT) B) w'):=hid fun W d t b v hW=>by
  rw [hx]
  exact (TV.more (Q:=fun e R'=>∃ r,e = .returned (.pointer (some ⟨r,0,none⟩)) /\ R' = docX r (m - 32) freshT) hW hB (fun Z hZ hl=>(dnew_calls hl hZ (m - 32)).mono fun e w' ⟨r,he,h⟩=>⟨_,⟨r,he,rfl⟩,h⟩)).mono fun e w' ⟨R',⟨r,he,hr⟩,h⟩=>⟨r,he,hr ▸ h⟩
 have HL:=hid hL
 unfold freshN at hm
 clear hL hB
 by_cases hbad:n < 48 \/ 544 < n
 ·rw [if_pos hbad] at hm
  subst hm
  replace hx:x = 16:=hx
  obtain ⟨z,hz⟩:∃ z:Int,z = 48:=⟨_,rfl⟩
  have wx:IntKind.i64.wrap (z - 32) = x:=by rw [hz,hx,IntKind.wrap_i64] <;> omega
  clear hx
  have HN:Hid (∀ W:World,Calls Tryz.prog 34 #[.int .i64 z] W fun e w'=>∃ b,e = .returned (.tuple #[.pointer (some ⟨b,0,none⟩),.int .i64 0]) /\ IsDisk w' b (Plus Nob W w') (DSt.fresh 48) /\ Fr Nob W w'):=hid (by rw [hz];exact HN.out)
  have HZ:=hid hz
  clear hz
  by_cases q:n < 48
  ·clear hbad h48 h544
   go_enter Tryz.func37,Tryz.ntmps37
   go_wp2_with fail
   rw [<- HZ.out]
   refine (HN.out _).mono ?_
   rintro e w1 ⟨d,rfl,hd,hf⟩
   have L1:=hid (Lv.new (B:=dskA kD d (DSt.fresh _)) HL.out HB.out hf hd)
   clear hd hf
   have HF:=hid (HFM.out d _ L1.out)
   clear L1
   go_wp2_with fail
   refine HF.out.mono ?_
   rintro e w2 ⟨t,b,v,rfl,V2⟩
   have HW:=hid (HNEW.out w2 d t b v V2)
   clear V2 HF
   go_wp2_with fail
   refine HW.out.mono ?_
   rintro e w3 ⟨r,rfl,V3⟩
   have HV:=hid V3
   clear V3 HW
   go_wp2_with fail
   go_ret3
   exact ⟨d,t,b,v,r,rfl,HV.out⟩
  ·have q2:544 < n:=by omega
   clear hbad h48 h544
   go_enter Tryz.func37,Tryz.ntmps37
   go_wp2_with fail
   rw [<- HZ.out]
   refine (HN.out _).mono ?_
   rintro e w1 ⟨d,rfl,hd,hf⟩
   have L1:=hid (Lv.new (B:=dskA kD d (DSt.fresh _)) HL.out HB.out hf hd)
   clear hd hf
   have HF:=hid (HFM.out d _ L1.out)
   clear L1
   go_wp2_with fail
   refine HF.out.mono ?_
   rintro e w2 ⟨t,b,v,rfl,V2⟩
   have HW:=hid (HNEW.out w2 d t b v V2)
   clear V2 HF
   go_wp2_with fail
   refine HW.out.mono ?_
   rintro e w3 ⟨r,rfl,V3⟩
   have HV:=hid V3
   clear V3 HW
   go_wp2_with fail
   go_ret3
   exact ⟨d,t,b,v,r,rfl,HV.out⟩
 ·rw [if_neg hbad] at hm
  obtain ⟨k,rfl⟩:∃ k:Nat,n = k:=⟨n.toNat,by omega⟩
  rw [Int.toNat_natCast] at hm
  subst hm
  have q:¬ (m:Int) < 48:=by omega
  have q2:¬ 544 < (m:Int):=by omega
  have wx:IntKind.i64.wrap ((m:Int) - 32) = x:=by rw [IntKind.wrap_i64] <;> omega
  clear hbad h48 h544 hx
  go_enter Tryz.func37,Tryz.ntmps37
  go_wp2_with fail
  refine (HN.out _).mono ?_
  rintro e w1 ⟨d,rfl,hd,hf⟩
  have L1:=hid (Lv.new (B:=dskA kD d (DSt.fresh _)) HL.out HB.out hf hd)
  clear hd hf
  have HF:=hid (HFM.out d _ L1.out)
  clear L1
  go_wp2_with fail
  refine HF.out.mono ?_
  rintro e w2 ⟨t,b,v,rfl,V2⟩
  have HW:=hid (HNEW.out w2 d t b v V2)
  clear V2 HF
  go_wp2_with fail
  refine HW.out.mono ?_
  rintro e w3 ⟨r,rfl,V3⟩
  have HV:=hid V3
  clear V3 HW
  go_wp2_with fail
  go_ret3
  exact ⟨d,t,b,v,r,rfl,HV.out⟩
end
section
variable {T:Tr}
variable {from_:Int} {path q:ByteArray}
end
section
variable {T U:Tr} {m:Nat}
end
section
variable {T U:Tr} {m:Nat}
end
section
variable {T:Tr} {m d n:Nat} {from_ kind:Int} {path s:ByteArray}
theorem makeT_go (hk:kind = 1 \/ kind = 2) (hl:lastT T from_ path = (d,s,0)) (he:(entryT (T d) s).isSome = false) (hf:firstT T = some n) (hfit:fitsT m (makeU T kind.toNat d n s) = true) :
 makeT m T from_ path kind = (0,makeU T kind.toNat d n s) /\ makeN m T from_ path kind = n:=by
 have h:makeT m T from_ path kind = (0,makeU T kind.toNat d n s):=by
  unfold makeT
  rw [if_neg (by omega),hl]
  simp only
  rw [if_neg (by decide),if_neg (by rw [he];decide),hf]
  simp only
  rw [if_pos hfit]
 refine ⟨h,?_⟩
 unfold makeN
 rw [h,if_pos rfl,hf]
 rfl
theorem linkT_go {old:ByteArray} (hf:findT T from_ old = (n,0)) (hk:(T n).kind ≠ 2) (hl:lastT T from_ path = (d,s,0)) (he:(entryT (T d) s).isSome = false) (h255:(T n).links ≠ 255) (hfit:fitsT m (linkU T n d s) = true) :
 linkT m T from_ old path = (0,linkU T n d s):=by
 unfold linkT
 rw [hf]
 simp only
 rw [if_neg (by decide),if_neg hk,hl]
 simp only
 rw [if_neg (by decide),if_neg (by rw [he];decide),if_neg h255,if_pos hfit]
end
def exA:ByteArray:=⟨#[97]⟩
def exB:ByteArray:=⟨#[98]⟩
def exC:ByteArray:=⟨#[99]⟩
def ex1:Tr:=makeU freshT 2 0 1 exA
def ex2:Tr:=makeU ex1 1 1 2 exB
def ex3:Tr:=linkU ex2 2 0 exC
theorem ex_make1:makeT 68 freshT 0 ⟨#[47,97]⟩ 2 = (0,ex1) /\ makeN 68 freshT 0 ⟨#[47,97]⟩ 2 = 1 :=
 makeT_go (.inr rfl) (by decide +kernel) (by decide +kernel) (by decide +kernel) (by decide +kernel)
theorem ex_make2:makeT 68 ex1 1 ⟨#[98]⟩ 1 = (0,ex2) /\ makeN 68 ex1 1 ⟨#[98]⟩ 1 = 2 :=
 makeT_go (.inl rfl) (by decide +kernel) (by decide +kernel) (by decide +kernel) (by decide +kernel)
theorem ex_find:findT ex2 0 ⟨#[97,47,46,46,47,97,47,46,47,98]⟩ = (2,0):=by decide +kernel
theorem ex_link:linkT 68 ex2 0 ⟨#[97,47,98]⟩ ⟨#[99]⟩ = (0,ex3) :=
 linkT_go (by decide +kernel) (by decide +kernel) (by decide +kernel) (by decide +kernel) (by decide +kernel) (by decide +kernel)
theorem ex_list:listE ex3 0 = 0 /\ listT ex3 0 = [⟨#[97]⟩,⟨#[99]⟩]:=by decide +kernel
theorem ex_busy:unlinkT ex3 0 ⟨#[97]⟩ = (12,ex3):=by
 unfold unlinkT
 rw [show lastT ex3 0 ⟨#[97]⟩ = (0,exA,0) by decide +kernel]
 simp only
 rw [if_neg (by decide),show entryT (ex3 0) exA = some 0 by decide +kernel]
 simp only
 rw [show inoT (ex3 0) 0 = 1 by decide +kernel,if_pos (by decide +kernel)]
theorem ex_dots:unlinkT ex3 0 ⟨#[47,97,47,46,46]⟩ = (8,ex3):=by
 unfold unlinkT
 rw [show lastT ex3 0 ⟨#[47,97,47,46,46]⟩ = (0,ByteArray.empty,8) by decide +kernel]
 simp only
 rw [if_pos (by decide)]
theorem ex_inv:TInv ex1 /\ TInv ex2 /\ TInv ex3:=by
 have h1:TInv ex1:=by have:=TInv.makes (m:=68) fresh_inv (from_:=0) (kind:=2) (path:=⟨#[47,97]⟩);rw [ex_make1.1] at this;exact this
 have h2:TInv ex2:=by have:=TInv.makes (m:=68) h1 (from_:=1) (kind:=1) (path:=⟨#[98]⟩);rw [ex_make2.1] at this;exact this
 have h3:TInv ex3:=by have:=TInv.linkt (m:=68) h2 (from_:=0) (old:=⟨#[97,47,98]⟩) (path:=⟨#[99]⟩);rw [ex_link] at this;exact this
 exact ⟨h1,h2,h3⟩
end Go.Proofs.YtngalllaiphkhaaGreatDoor
