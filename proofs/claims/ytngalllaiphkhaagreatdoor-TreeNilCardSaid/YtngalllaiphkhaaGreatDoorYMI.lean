import Derived.Test.YtngalllaiphkhaaGreatDoorYMH
import Derived.Deep.RegionHeld3
namespace Go.Proofs.YtngalllaiphkhaaGreatDoor
open Go.RowKit
section
variable {w0 w:World} {b d:Nat} {L:LSt} {B:Asr}
end
section
variable {w0 w:World} {b d:Nat} {L:LSt} {A B:Asr} {S0:Nat -> Prop}
end
structure Calm (m:Nat) (H:Nat -> ByteArray) (D:DSt):Prop where
 len:D.safe.length = 32 + m
 st:StA m H D.sw
 wait:D.wait = []
 off:D.off = false
theorem head_nil_nought:headP [] = nought:=by decide +kernel
theorem calm_fresh (m:Nat):Calm m (fun _=>nought) (DSt.fresh (32 + m)) where
 len:=by simp [DSt.fresh]
 st:=⟨by
  show (List.replicate (32 + m) nought)[1]? = _
  rw [head_nil_nought,List.getElem?_replicate,if_pos (by omega)],fun j hj=>by
  show (List.replicate (32 + m) nought)[32 + j]? = _
  rw [List.getElem?_replicate,if_pos (by omega)],fun y hy=>by simp [DSt.fresh,DSt.sw] at hy⟩
 wait:=rfl
 off:=rfl
theorem sec_of {D:DSt} (hw:D.wait = []) {i:Nat} {s:ByteArray} (h:D.safe[i]? = some s):D.sec i = s:=by
 rw [DSt.sec_eq,hw]
 show ((lastOf [] i).or D.safe[i]?).getD _ = s
 rw [h];rfl
theorem read_of {D:DSt} (ho:D.off = false) (hw:D.wait = []) {i:Nat} {s:ByteArray} (h:D.safe[i]? = some s):D.readS i = s /\ D.readE i = 0:=by
 obtain ⟨h1,h2⟩:=DSt.read_on ho (i:=(i:Int)) (by omega) (by have:=get_lt h;omega)
 exact ⟨by rw [h1,Int.toNat_natCast,sec_of hw h],h2⟩
section
variable {m:Nat} {H:Nat -> ByteArray} {D:DSt} {l:Stg}
theorem open_empty (ho:D.off = false) (hw:D.wait = []) (h:D.safe[1]? = some (headP [])):D.openE = 0 /\ D.opened = D:=by
 obtain ⟨h1,h2⟩:=read_of ho hw h
 have hP:homesP (D.readS 1) ((D.safe.length:Int) - 32) = some []:=by
  rw [show D.readS 1 = headP [] from h1]
  exact homesP_head (by simp) List.Pairwise.nil (fun _ h=>(by cases h)) (fun _ h=>(by cases h))
 obtain ⟨e1,e2⟩:=open_some h2 hP
 rw [if_pos rfl] at e1 e2
 exact ⟨e1,e2⟩
theorem Calm.opens (h:Calm m H D):D.openE = 0 /\ D.opened = D:=open_empty h.off h.wait h.st.head
theorem Calm.get (h:Calm m H D) (stg:Stg) {i:Nat} (hi:i < m):(LSt.mk D stg false).getS i = over H stg i /\ (LSt.mk D stg false).getE i = 0:=by
 have hmay:(LSt.mk D stg false).mayE i = 0:=by
  unfold LSt.mayE
  rw [if_neg (by simp),if_neg]
  rw [h.len];omega
 unfold LSt.getS LSt.getE over
 rw [if_neg (by simp [hmay]),if_neg (by simp [hmay]),Int.toNat_natCast]
 show (match stg.at i with | some s=>s | none=>D.readS (32 + (i:Int))) = _ /\ (match stg.at i with | some _=>(0:Int) | none=>D.readE (32 + (i:Int))) = 0
 have:=read_of h.off h.wait (h.st.home i hi)
 rw [show ((32 + i:Nat):Int) = 32 + (i:Int) by omega] at this
 cases stg.at i with
 | some s=>exact ⟨rfl,rfl⟩
 | none=>exact this
theorem commit_len (l:Stg):(commitA l).length = 2 * l.length + 6:=by
 unfold commitA installA stageA sealA
 simp;omega
theorem head_fits {n:Nat} (hn:1 < n) (l:List Nat) (hl:l.length <= 30):∀ a ∈ sealA l,a.Fits n:=by
 intro a ha
 simp only [sealA,List.mem_cons,List.not_mem_nil,or_false] at ha
 rcases ha with rfl | rfl | rfl
 ·trivial
 ·exact ⟨hn,headP_size hl⟩
 ·trivial
theorem install_fits (hg:l.Good m):∀ a ∈ installA l,a.Fits (32 + m):=by
 intro a ha
 rcases List.mem_append.1 ha with ha | ha
 ·obtain ⟨x,hx,rfl⟩:=List.mem_map.1 ha
  exact ⟨by have:=hg.lt x hx;omega,hg.size x hx⟩
 ·exact head_fits (by omega) [] (by simp) a ha
theorem commit_fits (hg:l.Good m):∀ a ∈ commitA l,a.Fits (32 + m):=by
 intro a ha
 rcases List.mem_append.1 ha with ha | ha
 ·obtain ⟨p,hp,rfl⟩:=List.mem_map.1 ha
  have h2:=List.mem_zipIdx hp
  have:=hg.len
  exact ⟨by omega,hg.size _ (by rw [h2.2.2];exact List.getElem_mem _)⟩
 ·rcases List.mem_append.1 ha with ha | ha
  ·exact head_fits (by omega) _ (by simp;exact hg.len) a ha
  ·exact install_fits hg a ha
theorem Calm.commits (h:Calm m H D) (hg:l.Good m) (hp:D.left (2 * l.length + 6)) (hp1:-1 <= D.power):D.actsE (commitA l) = 0 /\ Calm m (over H l) (D.acts (commitA l)) /\ (D.power = -1 -> (D.acts (commitA l)).power = -1):=by
 have hsw:D.sw = ⟨D.safe,[]⟩:=by unfold DSt.sw;rw [h.wait]
 have hst:=h.st
 rw [hsw] at hst
 obtain ⟨_,h2,h3⟩:=commit_along hg rfl h.len hst
 rcases acts_run h.off (l:=commitA l) (fun a ha=>by rw [h.len];exact commit_fits hg a ha) hp1 with ⟨_,k1,k2,k3,k4⟩ | ⟨k0,_⟩
 ·rw [hsw] at k3
  refine ⟨k1,⟨?_,by rw [k3];exact h2,by have:=congrArg Sw.wait k3;exact this.trans h3,k2⟩,fun hp=>by rw [k4,if_pos hp]⟩
  have:=congrArg (fun x=>x.safe.length) k3
  simp only [DSt.sw] at this
  rw [this,run_safe,h.len]
 ·rw [commit_len] at k0
  exact absurd hp k0
theorem Calm.cut (h:Calm m H D) (hg:l.Good m) (hp:¬ D.left (2 * l.length + 6)) (hp1:-1 <= D.power):D.actsE (commitA l) = 7 /\ Good m H l (D.acts (commitA l)).sw /\ (D.acts (commitA l)).safe.length = 32 + m:=by
 have hsw:D.sw = ⟨D.safe,[]⟩:=by unfold DSt.sw;rw [h.wait]
 have hst:=h.st
 rw [hsw] at hst
 obtain ⟨h1,_,_⟩:=commit_along hg rfl h.len hst
 rcases acts_run h.off (l:=commitA l) (fun a ha=>by rw [h.len];exact commit_fits hg a ha) hp1 with ⟨k0,_⟩ | ⟨_,k1,_,k,_,k2⟩
 ·rw [commit_len] at k0
  exact absurd k0 hp
 ·rw [hsw] at k2
  refine ⟨k1,by rw [k2];exact h1.take k,?_⟩
  have:=congrArg (fun x=>x.safe.length) k2
  simp only [DSt.sw] at this
  rw [this,run_safe,h.len]
structure Found (m:Nat) (H:Nat -> ByteArray) (l:Stg) (D:DSt):Prop where
 len:D.safe.length = 32 + m
 good:Good m H l D.sw
end
theorem over_nil (H:Nat -> ByteArray):over H [] = H:=by funext j;rfl
section
variable {m:Nat} {H:Nat -> ByteArray} {L:LSt}
theorem good_m (hc:Calm m H L.D) (hk:L.Ok):L.stg.Good m:=by
 unfold LSt.Ok at hk
 rw [hc.len,show 32 + m - 32 = m by omega] at hk
 exact hk
theorem commit_goes (hc:Calm m H L.D) (hd:L.dead = false) (hk:L.Ok) (hp:L.stg = [] \/ L.D.left (2 * L.stg.length + 6)) (hp1:-1 <= L.D.power) :
 L.commitE = 0 /\ Calm m (over H L.stg) L.commit.D /\ L.commit.stg = [] /\ L.commit.dead = false /\ (L.D.power = -1 -> L.commit.D.power = -1):=by
 by_cases hs:L.stg = []
 ·have e1:L.commitE = 0:=by unfold LSt.commitE;rw [if_neg (by simp [hd]),if_pos hs]
  have e2:L.commit = L:=by unfold LSt.commit;rw [if_neg (by simp [hd]),if_pos hs]
  rw [e2,hs,over_nil]
  exact ⟨e1,hc,rfl,hd,fun h=>h⟩
 ·obtain ⟨k1,k2,k3⟩:=hc.commits (good_m hc hk) (hp.resolve_left hs) hp1
  have e1:L.commitE = 0:=by unfold LSt.commitE;rw [if_neg (by simp [hd]),if_neg hs];exact k1
  have e2:L.commit = ⟨L.D.acts (commitA L.stg),[],false⟩:=by unfold LSt.commit;rw [if_neg (by simp [hd]),if_neg hs,if_pos k1]
  rw [e2]
  exact ⟨e1,k2,rfl,rfl,k3⟩
theorem commit_dies (hc:Calm m H L.D) (hd:L.dead = false) (hk:L.Ok) (hs:L.stg ≠ []) (hp:¬ L.D.left (2 * L.stg.length + 6)) (hp1:-1 <= L.D.power) :
 L.commitE = 7 /\ Found m H L.stg L.commit.D /\ L.commit.dead = true /\ L.commit.D.wait.length <= 70:=by
 obtain ⟨k1,k2,k3⟩:=hc.cut (good_m hc hk) hp hp1
 have e1:L.commitE = 7:=by unfold LSt.commitE;rw [if_neg (by simp [hd]),if_neg hs];exact k1
 have e2:L.commit = ⟨L.D.acts (commitA L.stg),L.stg,true⟩:=by unfold LSt.commit;rw [if_neg (by simp [hd]),if_neg hs,if_neg (by omega)]
 rw [e2]
 refine ⟨e1,⟨k3,k2⟩,rfl,?_⟩
 have h1:=acts_wait (commitA L.stg) L.D
 rw [hc.wait,commit_len] at h1
 have h2:=(good_m hc hk).len
 show (L.D.acts (commitA L.stg)).wait.length <= 70
 simp at h1
 omega
end
section
variable {w0 w:World} {b d m:Nat} {L:LSt} {A B:Asr} {H:Nat -> ByteArray}
end
end Go.Proofs.YtngalllaiphkhaaGreatDoor
