import Derived.Test.YtngalllaiphkhaaGreatDoorYVmC
namespace Go.Proofs.YtngalllaiphkhaaGreatDoor
set_option linter.unusedVariables false
set_option linter.unusedSimpArgs false
structure Blank (D:DSt) (n:Nat):Prop where
 on:D.off = false
 pw:D.power = -1
 len:D.safe.length = 48
 safe:∀ (i:Nat) (s:ByteArray),D.safe[i]? = some s -> s.size = 64 /\ (i ≠ 1 -> s = nought)
 wait:∀ x ∈ D.wait,x.1 < 48 /\ x.2.size = 64 /\ (x.1 ≠ 1 -> x.2 = nought)
 few:D.wait.length <= n
section
variable {D:DSt} {n:Nat}
theorem Blank.sec (h:Blank D n) {i:Nat} (hi:i < 48) (h1:i ≠ 1):D.sec i = nought:=by
 rcases D.sec_cases (i:=i) (by rw [h.len];exact hi) with ⟨s,h2,h3,_⟩ | ⟨s,h2,h3,_⟩
 ·rw [h3];exact (h.safe i s h2).2 h1
 ·rw [h3];exact (h.wait _ h2).2.2 h1
theorem Blank.write (h:Blank D n) {i:Int} {s:ByteArray} (hs:i ≠ 1 -> s = nought):Blank (D.write i s) (n + 1):=by
 by_cases hb:(i < 0 \/ (D.safe.length:Int) <= i) \/ s.size ≠ 64
 ·rw [(DSt.write_bad h.on hb).1]
  exact ⟨h.on,h.pw,h.len,h.safe,h.wait,by have:=h.few;omega⟩
 ·have hl:=h.len
  have hi:0 <= i /\ i < D.safe.length:=by omega
  have h64:s.size = 64:=Classical.not_not.1 fun e=>hb (.inr e)
  have hw:D.write i s = { D.pay with wait:=D.wait ++ [(i.toNat,s)] }:=by
   unfold DSt.write
   rw [if_neg (by rw [h.on];decide),if_neg hb,if_neg (by rw [h.pw];decide)]
  rw [hw]
  refine ⟨h.on,?_,h.len,h.safe,fun x hx=>?_,?_⟩
  ·show (if 0 < D.power then D.power - 1 else D.power) = -1
   rw [h.pw];decide
  ·rcases List.mem_append.1 hx with hx | hx
   ·exact h.wait x hx
   ·obtain rfl:=List.mem_singleton.1 hx
    refine ⟨by show i.toNat < 48;omega,h64,fun hne=>hs fun e=>hne ?_⟩
    show i.toNat = 1
    omega
  ·show (D.wait ++ [(i.toNat,s)]).length <= n + 1
   rw [List.length_append]
   have:=h.few
   show _ + 1 <= _
   omega
theorem Blank.flush (h:Blank D n):Blank D.flush n:=by
 rw [(DSt.flush_on h.on h.pw).1]
 refine ⟨h.on,h.pw,(puts_length _ _).trans h.len,fun i s hs=>?_,fun x hx=>(by cases hx),Nat.zero_le _⟩
 have hi:i < D.safe.length:=by
  have:=(List.getElem?_eq_some_iff.1 hs).1
  rwa [puts_length] at this
 have hs:(puts D.safe D.wait)[i]? = some s:=hs
 rw [puts_get _ _ _ hi] at hs
 cases hl:lastOf D.wait i with
 | none=>rw [hl] at hs;exact h.safe i s hs
 | some u =>
  rw [hl] at hs
  obtain rfl:u = s:=by simpa using hs
  have:=h.wait _ (lastOf_mem hl)
  exact ⟨this.2.1,this.2.2⟩
theorem Blank.more (h:Blank D n) {k:Nat} (hk:n <= k):Blank D k:=⟨h.on,h.pw,h.len,h.safe,h.wait,Nat.le_trans h.few hk⟩
def GoodA:DAct -> Prop
 | .write i s=>i ≠ 1 -> s = nought
 | .flush=>True
theorem Blank.acts:∀ (l:List DAct) {D:DSt} {n:Nat},Blank D n -> (∀ a ∈ l,GoodA a) -> Blank (D.acts l) (n + l.length)
 | [],D,n,h,_=>h
 | a :: l,D,n,h,hg=>by
  have h1:Blank (D.act1 a) (n + 1):=by
   have ha:=hg a (List.mem_cons_self ..)
   cases a with
   | write i s=>exact h.write fun hne=>ha fun e=>hne (by rw [e];rfl)
   | flush=>exact h.flush.more (Nat.le_succ _)
  rw [DSt.acts_cons]
  split
  ·have:=Blank.acts l h1 fun b hb=>hg b (List.mem_cons_of_mem _ hb)
   exact this.more (by rw [List.length_cons];omega)
  ·exact h1.more (by rw [List.length_cons];omega)
theorem Blank.opened (h:Blank D n):Blank D.opened (n + 40):=by
 unfold DSt.opened
 split
 ·exact h.more (by omega)
 ·split
  ·exact h.more (by omega)
  ·next l hl =>
   split
   ·exact h.more (by omega)
   ·have hlen:l.length <= 30:=by
     unfold homesP at hl
     split at hl
     ·next hc =>
      obtain rfl:=Option.some.inj hl
      rw [List.length_map,List.length_range]
      exact hc.1
     ·cases hl
    have hin:(installA (D.held l)).length <= 40:=by
     unfold installA sealA DSt.held
     simp only [List.length_append,List.length_map,List.length_zipIdx,List.length_cons,List.length_nil]
     omega
    refine (Blank.acts _ h fun a ha=>?_).more (by omega)
    unfold installA at ha
    rcases List.mem_append.1 ha with ha | ha
    ·obtain ⟨x,hx,rfl⟩:=List.mem_map.1 ha
     unfold DSt.held at hx
     obtain ⟨p,hp,rfl⟩:=List.mem_map.1 hx
     intro _
     have hk:p.2 < l.length:=(List.mem_zipIdx' hp).1
     exact h.sec (by omega) (by omega)
    ·unfold sealA at ha
     simp only [List.mem_cons,List.not_mem_nil,or_false] at ha
     rcases ha with rfl | rfl | rfl
     ·trivial
     ·exact fun e=>absurd rfl e
     ·trivial
theorem blank_fresh:Blank (DSt.fresh 48) 0:=by
 refine ⟨rfl,rfl,by simp [DSt.fresh],fun i s hs=>?_,fun x hx=>(by cases hx),Nat.le_refl _⟩
 have hs:(List.replicate 48 nought)[i]? = some s:=hs
 obtain rfl:=(List.mem_replicate.1 (List.mem_of_getElem? hs)).2
 exact ⟨by decide +kernel,fun _=>rfl⟩
theorem Blank.rdv (h:Blank D n) (hn:n <= 70):Rdv 16 (fun _=>nought) ⟨D,[],false⟩:=by
 refine ⟨⟨good_nil _,Nat.le_trans h.few hn,⟨by rw [h.len];decide,by rw [h.len];decide,fun x hx=>by rw [h.len];exact (h.wait x hx).1,fun s hs=>?_,fun x hx=>(h.wait x hx).2.1,by rw [h.pw];decide,by rw [h.pw];decide⟩⟩,h.len,fun {i} hi=>?_⟩
 ·obtain ⟨i,hi⟩:=List.mem_iff_getElem?.1 hs
  exact (h.safe i s hi).1
 ·have hl:=h.len
  have hm:(LSt.mk D [] false).mayE (i:Int) = 0:=by
   unfold LSt.mayE
   rw [if_neg (fun e=>by cases e),if_neg (by show ¬ ((i:Int) < 0 \/ (D.safe.length:Int) - 32 <= i);omega)]
  obtain ⟨r1,r2⟩:=DSt.read_on (D:=D) h.on (i:=32 + (i:Int)) (by omega) (by omega)
  have hE:(LSt.mk D [] false).getE (i:Int) = 0:=by
   unfold LSt.getE
   rw [if_neg (by rw [hm];decide)]
   exact r2
  refine ⟨hE,?_⟩
  unfold vget
  rw [if_pos hE]
  unfold LSt.getS
  rw [if_neg (by rw [hm];decide)]
  show D.readS (32 + (i:Int)) = nought
  rw [r1,show (32 + (i:Int)).toNat = 32 + i by omega]
  exact h.sec (by omega) (by omega)
theorem blank_not:¬ Whole 16 (fun _=>nought):=fun h=>by
 have h1:=h.map 0 (by omega)
 rw [show usedTo (fun _=>nought) 32 0 = true from (usedTo_iff _ _ _).2 (.inl (by omega))] at h1
 revert h1
 decide +kernel
theorem blank_open {s:ByteArray} (hs:s.size = 64):((DSt.fresh 48).write 1 s).readE 1 = 0 /\ ((DSt.fresh 48).write 1 s).readS 1 = s /\ ((DSt.fresh 48).write 1 s).safe.length = 48:=by
 have hb:=blank_fresh.write (i:=1) (s:=s) fun e=>absurd rfl e
 obtain ⟨r1,r2⟩:=DSt.read_on (D:=(DSt.fresh 48).write 1 s) hb.on (i:=1) (by omega) (by rw [hb.len];decide)
 refine ⟨r2,?_,hb.len⟩
 rw [r1]
 have hw:(DSt.fresh 48).write 1 s = { (DSt.fresh 48).pay with wait:=[] ++ [(1,s)] }:=by
  unfold DSt.write
  rw [if_neg (by decide),if_neg (by rw [hs];decide),if_neg (by decide)]
  rfl
 rw [hw]
 show DSt.sec _ 1 = s
 unfold DSt.sec
 show ((lastOf ([] ++ [(1,s)]) 1).or _).getD _ = s
 rw [lastOf_snoc]
 rfl
end
end Go.Proofs.YtngalllaiphkhaaGreatDoor
