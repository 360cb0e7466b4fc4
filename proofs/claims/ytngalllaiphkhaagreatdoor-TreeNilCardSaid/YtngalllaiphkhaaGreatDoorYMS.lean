import Derived.Test.YtngalllaiphkhaaGreatDoorYVfA
import Derived.Test.YtngalllaiphkhaaGreatDoorYMR
namespace Go.Proofs.YtngalllaiphkhaaGreatDoor
open Go.RowKit
section
def VT (c:Nat) (p:Int) (S0:Nat -> Prop) (w0:World) (v b d m:Nat) (A A0:Nat -> Node) (B:Asr) (w:World):Prop :=
 ∃ L H X,VV S0 w0 v b d L B w /\ VolL m H X A L /\ IsVol m H A0 /\ L.stg.length <= c /\ L.D.power = p
def DT (S0:Nat -> Prop) (w0:World) (d m:Nat) (A A0:Nat -> Node) (B:Asr) (w:World):Prop :=
 ∃ D H l,Lv S0 w0 (Star (dskA kD d D) B) w /\ Found m H l D /\ D.wait.length <= 70 /\ l.Good m /\ IsVol m H A0 /\ IsVol m (over H l) A /\ m <= 512
variable {S0:Nat -> Prop} {w0 w w1:World} {v b d m c:Nat} {p:Int} {A A0:Nat -> Node} {H X:Sec} {L:LSt} {B R R':Asr}
theorem VolL.full16 (h:VolL m H X A L) (hl:L.stg.length <= 16):vfullB L = false:=by
 rw [h.fullE]
 unfold Go.Proofs.YtngalllaiphkhaaGreatDoor.keys
 rw [List.length_map]
 exact decide_eq_false (by omega)
theorem VT.fr (h:VT c p S0 w0 v b d m A A0 B w):Fr S0 w0 w:=by obtain ⟨L,H,X,h1,_⟩:=h;exact Lv.fr h1
theorem VT.same (h:VT c p S0 w0 v b d m A A0 B w) {A':Nat -> Node} (e:A = A'):VT c p S0 w0 v b d m A' A0 B w:=e ▸ h
theorem VT.keep (h:VT c p S0 w0 v b d m A A0 B w) (hB:Loc B) (hf:Fr Nob w w1):VT c p S0 w0 v b d m A A0 B w1:=by
 obtain ⟨L,H,X,h1,h2⟩:=h;exact ⟨L,H,X,Lv.keep h1 (VV.loc hB) hf,h2⟩
theorem VT.map (h:VT c p S0 w0 v b d m A A0 B w) {B':Asr} (hm:∀ w S,B w S -> B' w S):VT c p S0 w0 v b d m A A0 B' w:=by
 obtain ⟨L,H,X,h1,h2⟩:=h
 exact ⟨L,H,X,Lv.map h1 fun _ h=>star_right h fun _ h=>star_right h fun _ h=>star_right h fun _ h=>hm _ _ h,h2⟩
theorem VT.new (h:VT c p S0 w0 v b d m A A0 B w) (hB:Loc B) (hf:Fr Nob w w1) (hn:R w1 (Plus Nob w w1)):VT c p S0 w0 v b d m A A0 (Star R B) w1:=by
 obtain ⟨L,H,X,h1,h2⟩:=h
 exact ⟨L,H,X,VV.inn (Lv.new h1 (VV.loc hB) hf hn),h2⟩
theorem VT.box (h:VT c p S0 w0 v b d m A A0 B w) (hB:Loc B) (e:Nat) (cs:List Value):VT c p S0 w0 v b d m A A0 (Star (blkA w.heap.size e cs) B) (w.alloc (.cells cs.toArray e)):=by
 obtain ⟨L,H,X,h1,h2⟩:=h
 exact ⟨L,H,X,VV.box h1 hB e cs,h2⟩
theorem VT.turn (h:VT c p S0 w0 v b d m A A0 (Star R B) w) (hB:Loc B) (ht:Turn w w1 R R'):VT c p S0 w0 v b d m A A0 (Star R' B) w1:=by
 obtain ⟨L,H,X,h1,h2⟩:=h
 exact ⟨L,H,X,VV.inn (Lv.turn (VV.out h1) (VV.loc hB) ht),h2⟩
theorem pay_pow {D:DSt} (h:-1 <= D.power):-1 <= D.pay.power:=by
 show -1 <= (if 0 < D.power then D.power - 1 else D.power)
 split <;> omega
theorem act1_pow {D:DSt} (a:DAct) (h:-1 <= D.power):-1 <= (D.act1 a).power:=by
 cases a with
 | write i s =>
  show -1 <= (D.write _ s).power
  unfold DSt.write
  split
  ·exact h
  ·split
   ·exact h
   ·split
    ·exact h
    ·exact pay_pow h
 | flush =>
  show -1 <= D.flush.power
  unfold DSt.flush
  split
  ·exact h
  ·split
   ·exact h
   ·exact pay_pow h
theorem acts_pow:∀ (l:List DAct) {D:DSt},-1 <= D.power -> -1 <= (D.acts l).power
 | [],_,h=>h
 | a :: l,D,h=>by
  rw [DSt.acts_cons]
  split
  ·exact acts_pow l (act1_pow a h)
  ·exact act1_pow a h
theorem t_commit (h:VT c p S0 w0 v b d m A A0 B w) (hB:Loc B) :
 Calls Tryz.prog 105 #[.pointer (some ⟨b,0,none⟩)] w fun e w' =>
  (e = .returned (.int .i64 0) /\ ∃ p',(p = -1 -> p' = -1) /\ VT 0 p' S0 w0 v b d m A A B w') \/ (p ≠ -1 /\ e = .returned (.int .i64 7) /\ DT S0 w0 d m A A0 B w'):=by
 obtain ⟨L,H,X,h1,h2,h3,h4,h5⟩:=h
 have hcm:=VV.commit h1 hB h2.alv.vok
 by_cases hp:L.stg = [] \/ L.D.left (2 * L.stg.length + 6)
 ·obtain ⟨c1,c2,c3,c4,c5⟩:=h2.commit hp
  rw [c1] at hcm
  refine hcm.mono ?_
  rintro e w' ⟨rfl,h'⟩
  have hpw:-1 <= L.commit.D.power:=by
   unfold LSt.commit
   split
   ·exact h2.alv.power
   ·split
    ·exact h2.alv.power
    ·split
     ·exact acts_pow _ h2.alv.power
     ·exact acts_pow _ h2.alv.power
  refine .inl ⟨rfl,L.commit.D.power,fun e=>c4 (h5.trans e),L.commit,X,X,h',c5 ((VV.gone h').vok c2 (by omega)) hpw,h2.vol,by rw [c2];exact Nat.le_refl 0,rfl⟩
 ·have hs:L.stg ≠ []:=fun e=>hp (.inl e)
  have hl:¬ L.D.left (2 * L.stg.length + 6):=fun e=>hp (.inr e)
  obtain ⟨c1,c2,c3,c4⟩:=commit_dies h2.alv.calm h2.alv.dead h2.alv.vok.ok hs hl h2.alv.power
  rw [c1] at hcm
  refine hcm.mono ?_
  rintro e w' ⟨rfl,h'⟩
  refine .inr ⟨fun e=>hl (.inl (h5.trans e)),rfl,L.commit.D,H,L.stg,(VV.gone h').gone,c2,c4,h2.alv.good,h3,by rw [h2.alv.eq];exact h2.vol,h2.alv.m16.2⟩
theorem t_abort (h:VT c p S0 w0 v b d m A A0 B w) (hB:Loc B) :
 Calls Tryz.prog 104 #[.pointer (some ⟨b,0,none⟩)] w fun e w'=>e = .returned (.tuple #[]) /\ VT 0 p S0 w0 v b d m A0 A0 B w':=by
 obtain ⟨L,H,X,h1,h2,h3,h4,h5⟩:=h
 refine (lv_abort h1 (VV.locB hB)).mono ?_
 rintro e w' ⟨rfl,h'⟩
 have h6:VV S0 w0 v b d L.abort B w':=h'
 exact ⟨rfl,L.abort,H,H,h6,h2.abort h3 ((VV.gone h6).vok rfl h2.alv.vok.wait),h3,Nat.zero_le _,h5⟩
theorem t_get (h:VT c p S0 w0 v b d m A A0 B w) (hB:Loc B) :
 Calls Tryz.prog 82 #[.pointer (some ⟨b,0,none⟩),.int .i64 0] w fun e w'=>∃ s,e = .returned (.tuple #[.string s,.int .i64 0]) /\ VT c p S0 w0 v b d m A A0 B w':=by
 obtain ⟨L,H,X,h1,h2,h3,h4,h5⟩:=h
 have hg:=lv_get h1 (VV.locB hB) (by have:=h2.alv.vok.wait;omega) 0
 rw [h2.alv.get0.1] at hg
 refine hg.mono ?_
 rintro e w' ⟨rfl,h'⟩
 exact ⟨_,rfl,L,H,X,h',h2,h3,h4,h5⟩
theorem t_new (h:VT c p S0 w0 v b d m A A0 B w) (hB:Loc B) (hc:c <= 16) (kind:Int) :
 Calls Tryz.prog 46 #[.pointer (some ⟨v,0,none⟩),.int .i64 kind] w fun e w'=>e = .returned (.tuple #[.int .i64 (if anewE A false kind = 0 then (anewN A:Int) else 0),.int .i64 (anewE A false kind)]) /\ VT (c + 1) p S0 w0 v b d m (anew A false kind) A0 B w':=by
 obtain ⟨L,H,X,h1,h2,h3,h4,h5⟩:=h
 obtain ⟨e1,e2,X',e3⟩:=h2.new kind
 have hr:newR L kind = if anewE A (vfullB L) kind = 0 then (anewN A:Int) else 0:=by
  unfold newR
  rw [e1]
  split
  ·rename_i h0;rw [e2 (e1.trans h0)]
  ·rfl
 have:=vnew_calls h1 hB h2.alv.vok kind
 rw [e1,hr] at this
 rw [h2.full16 (by omega)] at this e3
 refine this.mono ?_
 rintro e w' ⟨rfl,h'⟩
 exact ⟨rfl,vnew L kind,H,X',h',e3,h3,Nat.le_trans (vnew_len L kind) (by omega),(congrArg DSt.power (vnew_D L kind)).trans h5⟩
theorem t_link (h:VT c p S0 w0 v b d m A A0 B w) (hB:Loc B) (hc:c <= 16) (n by_:Int) :
 Calls Tryz.prog 47 #[.pointer (some ⟨v,0,none⟩),.int .i64 n,.int .i64 by_] w fun e w'=>e = .returned (.int .i64 (alinkE A false n by_)) /\ VT (c + 1) p S0 w0 v b d m (alink A false n by_) A0 B w':=by
 obtain ⟨L,H,X,h1,h2,h3,h4,h5⟩:=h
 obtain ⟨e1,X',e3⟩:=h2.link n by_
 have:=vlink_calls h1 hB h2.alv.vok n by_
 rw [e1] at this
 rw [h2.full16 (by omega)] at this e3
 refine this.mono ?_
 rintro e w' ⟨rfl,h'⟩
 exact ⟨rfl,vlink L n by_,H,X',h',e3,h3,Nat.le_trans (vlink_len L n by_) (by omega),(congrArg DSt.power (vlink_D L n by_)).trans h5⟩
theorem t_patch (h:VT c p S0 w0 v b d m A A0 B w) (hB:Loc B) (hc:c <= 16) (n off:Int) (s:ByteArray) (hs:off.toNat % 64 + s.size <= 64) :
 Calls Tryz.prog 48 #[.pointer (some ⟨v,0,none⟩),.int .i64 n,.int .i64 off,.string s] w fun e w'=>e = .returned (.int .i64 (awriteE m A false n off s)) /\ VT (c + 7) p S0 w0 v b d m (awrite m A false n off s) A0 B w':=by
 obtain ⟨L,H,X,h1,h2,h3,h4,h5⟩:=h
 obtain ⟨e1,X',e3⟩:=h2.write n off s
 have:=vwrite_calls h1 hB h2.alv.vok n off s
 rw [e1] at this
 rw [h2.full16 (by omega)] at this e3
 refine this.mono ?_
 rintro e w' ⟨rfl,h'⟩
 exact ⟨rfl,vwrite L n off s,H,X',h',e3,h3,Nat.le_trans (vwrite_len L n off s hs) (by omega),(congrArg DSt.power (vwrite_D L n off s)).trans h5⟩
theorem t_free (h:VT c p S0 w0 v b d m A A0 B w) (hB:Loc B) (hc:c <= 16) (n:Int) :
 Calls Tryz.prog 59 #[.pointer (some ⟨v,0,none⟩),.int .i64 n] w fun e w'=>e = .returned (.int .i64 (afreeE A false n)) /\ ∃ c',VT c' p S0 w0 v b d m (afree A false n) A0 B w':=by
 obtain ⟨L,H,X,h1,h2,h3,h4,h5⟩:=h
 obtain ⟨e1,e2,X',e3⟩:=h2.free n
 have:=vFree_calls h1 hB h2.alv.vok n e2
 rw [e1] at this
 rw [h2.full16 (by omega)] at this e3
 refine this.mono ?_
 rintro e w' ⟨rfl,h'⟩
 exact ⟨rfl,_,vfree L n,H,X',h',e3,h3,Nat.le_refl _,(congrArg DSt.power (vfree_D L n)).trans h5⟩
def nstatV (a:Node):Value:=.agg #[.int .i64 a.kind,.int .i64 a.links,.int .i64 a.data.length]
theorem t_stat (h:VT c p S0 w0 v b d m A A0 B w) (hB:Loc B) (n:Int) :
 Calls Tryz.prog 44 #[.pointer (some ⟨v,0,none⟩),.int .i64 n] w fun e w'=>e = .returned (.tuple #[if afindE A n = 0 then nstatV (A n.toNat) else nstatV Node.free,.int .i64 (afindE A n)]) /\ VT c p S0 w0 v b d m A A0 B w':=by
 obtain ⟨L,H,X,h1,h2,h3,h4,h5⟩:=h
 obtain ⟨e1,e2,e3⟩:=h2.stat n
 have:=vstat_calls h1 hB h2.alv.vok n
 rw [e1] at this
 have hs:statV (vfindX L n) = if afindE A n = 0 then nstatV (A n.toNat) else nstatV Node.free:=by
  by_cases h0:afindE A n = 0
  ·obtain ⟨q1,q2,q3⟩:=e2 h0
   rw [if_pos h0]
   unfold statV nstatV statL
   rw [q1,q2,q3]
  ·rw [if_neg h0,e3 h0];rfl
 rw [hs] at this
 refine this.mono ?_
 rintro e w' ⟨rfl,h'⟩
 exact ⟨rfl,L,H,X,h',h2,h3,h4,h5⟩
def areadB (A:Nat -> Node) (n off many:Int):ByteArray:=⟨(areadS A n off many).toArray⟩
theorem t_read (h:VT c p S0 w0 v b d m A A0 B w) (hB:Loc B) (n off many:Int) :
 Calls Tryz.prog 54 #[.pointer (some ⟨v,0,none⟩),.int .i64 n,.int .i64 off,.int .i64 many] w fun e w'=>e = .returned (.tuple #[.string (areadB A n off many),.int .i64 (areadE A n off many)]) /\ VT c p S0 w0 v b d m A A0 B w':=by
 obtain ⟨L,H,X,h1,h2,h3,h4,h5⟩:=h
 obtain ⟨e1,e2,e3⟩:=h2.read n off many
 have:=vread_calls h1 hB h2.alv.vok n off many e3
 have hs:vreadS L n off many = areadB A n off many:=by
  unfold areadB
  rw [<- e2]
 rw [e1,hs] at this
 refine this.mono ?_
 rintro e w' ⟨rfl,h'⟩
 exact ⟨rfl,L,H,X,h',h2,h3,h4,h5⟩
end
section
variable {S0:Nat -> Prop} {w0 w:World} {v b d m c:Nat} {p:Int} {A A0:Nat -> Node} {B:Asr}
theorem VT.sum (h:VT c p S0 w0 v b d m A A0 B w):sumT A 32 + 9 <= m:=by
 obtain ⟨L,H,X,h1,h2,_⟩:=h
 have h4:=h2.vol.room
 omega
end
end Go.Proofs.YtngalllaiphkhaaGreatDoor
