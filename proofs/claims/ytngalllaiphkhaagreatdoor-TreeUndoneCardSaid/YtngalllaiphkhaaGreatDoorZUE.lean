import Derived.Test.YtngalllaiphkhaaGreatDoorZUD
namespace Go.Proofs.YtngalllaiphkhaaGreatDoor
open Go.RowKit
open Go.Lib (hid)
set_option maxRecDepth 100000
set_option maxHeartbeats 16000000
set_option linter.unusedVariables false
set_option linter.unusedSimpArgs false
section
open Go.ChangeShapes Go.WideShapes Go.ChangeAt Go.RowKit Go.Deep
def flat9 (l:List ActT):List Value:=l.flatMap ActT.cells
theorem flat9_get {l:List ActT} {k:Nat} {a:ActT} (h:l[k]? = some a) (j:Nat) (hj:j < 9):(flat9 l)[k * 9 + j]? = a.cells[j]?:=by
 induction l generalizing k with
 | nil=>simp at h
 | cons y l ih =>
  cases k with
  | zero =>
   obtain rfl:y = a:=by simpa using h
   show (y.cells ++ flat9 l)[0 * 9 + j]? = _
   rw [List.getElem?_append_left (by show 0 * 9 + j < 9;omega),Nat.zero_mul,Nat.zero_add]
  | succ k =>
   show (y.cells ++ flat9 l)[(k + 1) * 9 + j]? = _
   have hy:y.cells.length = 9:=rfl
   rw [List.getElem?_append_right (by omega),hy,show (k + 1) * 9 + j - 9 = k * 9 + j by omega]
   exact ih (by simpa using h)
theorem flat9_length (l:List ActT):(flat9 l).length = l.length * 9:=by
 induction l with
 | nil=>rfl
 | cons x l ih =>
  show (x.cells ++ flat9 l).length = _
  have hx:x.cells.length = 9:=rfl
  rw [List.length_append,ih,List.length_cons,hx];omega
theorem Tryz.bytesAct9:Tryz.prog.bytesOf 80 = 96:=by kernel_rfl
theorem open_act9 {H:Type} {enc:TypeId × Value -> H} {w:World} {base:Nat} {spare:Nat -> Bool} {held:Bool} {a:Addr} {i n:Nat} {d:DataW H} {ys:List (DataW H × List MemPlace)} {fs:Array Field}
 (hfs:Tryz.prog.underlying 80 = some (.struct fs)) (hd:d = .agg (ys.map (·.1)))
 (hc:∀ (j:Nat) (f:Field),fs[j]? = some f -> ∃ (v:Value) (y:DataW H × List MemPlace),w.cell? (a.add (i * fs.size + j)) = some v /\ ys[j]? = some y /\ DataW.trod enc Tryz.prog w base spare held n f.type [v] = some y)
 (hz:∀ m ∈ d.weights Tryz.prog 80,m <= reachBytes) :
 ∃ x:ActT,∀ j v,(x.cells)[j]? = some v -> w.cell? (a.add (i * 9 + j)) = some v:=by
 rw [Tryz.underlying80] at hfs
 simp only [Option.some.injEq,TypeDesc.struct.injEq] at hfs
 subst hfs
 obtain ⟨v0,y0,c0,g0,t0⟩:=hc 0 _ rfl
 obtain ⟨v1,y1,c1,g1,t1⟩:=hc 1 _ rfl
 obtain ⟨v2,y2,c2,g2,t2⟩:=hc 2 _ rfl
 obtain ⟨v3,y3,c3,g3,t3⟩:=hc 3 _ rfl
 obtain ⟨v4,y4,c4,g4,t4⟩:=hc 4 _ rfl
 obtain ⟨v5,y5,c5,g5,t5⟩:=hc 5 _ rfl
 obtain ⟨v6,y6,c6,g6,t6⟩:=hc 6 _ rfl
 obtain ⟨v7,y7,c7,g7,t7⟩:=hc 7 _ rfl
 obtain ⟨v8,y8,c8,g8,t8⟩:=hc 8 _ rfl
 obtain ⟨k,e0,_,_⟩:=DataW.trod_int Tryz.underlying3 t0
 obtain ⟨f,e1,_,_⟩:=DataW.trod_int Tryz.underlying3 t1
 obtain ⟨n2,e2,_,_⟩:=DataW.trod_int Tryz.underlying3 t2
 obtain ⟨o,e3,_,_⟩:=DataW.trod_int Tryz.underlying3 t3
 obtain ⟨m,e4,_,_⟩:=DataW.trod_int Tryz.underlying3 t4
 obtain ⟨p,e5,_,_⟩:=DataW.trod_string Tryz.underlying9 t5
 obtain ⟨q,e6,_,_⟩:=DataW.trod_string Tryz.underlying9 t6
 obtain ⟨s,e7,_,_⟩:=DataW.trod_string Tryz.underlying9 t7
 obtain ⟨u,e8,_,_⟩:=DataW.trod_int Tryz.underlying78 t8
 simp only [List.cons.injEq,and_true] at e0 e1 e2 e3 e4 e5 e6 e7 e8
 subst e0 e1 e2 e3 e4 e5 e6 e7 e8
 refine ⟨⟨k,f,n2,o,m,p,q,s,u⟩,fun j v hj=>?_⟩
 match j,hj with
 | 0,hj=>simp [ActT.cells] at hj;subst hj;exact c0
 | 1,hj=>simp [ActT.cells] at hj;subst hj;exact c1
 | 2,hj=>simp [ActT.cells] at hj;subst hj;exact c2
 | 3,hj=>simp [ActT.cells] at hj;subst hj;exact c3
 | 4,hj=>simp [ActT.cells] at hj;subst hj;exact c4
 | 5,hj=>simp [ActT.cells] at hj;subst hj;exact c5
 | 6,hj=>simp [ActT.cells] at hj;subst hj;exact c6
 | 7,hj=>simp [ActT.cells] at hj;subst hj;exact c7
 | 8,hj=>simp [ActT.cells] at hj;subst hj;exact c8
 | j + 9,hj=>simp [ActT.cells] at hj
theorem in_act9s {H:Type} {enc:TypeId × Value -> H} {w:World} {base fuel:Nat} {cs:List Value} {x:DataW H × List MemPlace}
 (h:DataW.trod enc Tryz.prog w base (fun _=>true) true fuel 22 cs = some x) (hz:∀ m ∈ x.1.weights Tryz.prog 22,m <= reachBytes) :
 ∃ (ao:Option Addr) (cap:Nat) (acts:List ActT),cs = [.slice ao acts.length cap] /\ Srcs w (.slice ao acts.length cap) acts.length 9 (flat9 acts) /\ acts.length * 96 <= 140737488351232:=by
 rcases open_slice_fields Tryz.underlying22 Tryz.underlying80 (by kernel_rfl) (by kernel_rfl) h with ⟨hcs,_⟩ | ⟨a,l,c,m,D,Pl,hcs,_,hl,_,hm,hx,hi⟩
 ·exact ⟨none,0,[],hcs,⟨rfl,fun u hu=>by simp [flat9] at hu,.inl ⟨rfl,rfl⟩⟩,by simp⟩
 ·simp only [if_true] at hm
  obtain ⟨x1,x2⟩:=x
  simp only [Prod.mk.injEq] at hx
  obtain ⟨hx,_⟩:=hx
  have hlm:l <= m:=by omega
  obtain ⟨acts,hal,hap⟩:=list_choose (P:=fun i (x:ActT)=>∀ j v,(x.cells)[j]? = some v -> w.cell? (a.add (i * 9 + j)) = some v) l (fun i hil=>by
   obtain ⟨ys,n,hD,_,hyl,hc⟩:=hi i (by omega)
   refine open_act9 Tryz.underlying80 hD hc (fun q hq=>hz q ?_)
   show q ∈ x1.weights Tryz.prog 22
   rw [hx]
   exact weights_elem Tryz.underlying22 (List.mem_map.2 ⟨i,List.mem_range.2 hil,rfl⟩) hq)
  refine ⟨some a,c,acts,by rw [hcs,hal],⟨?_,?_,.inr ⟨a,c,by rw [hal],?_⟩⟩,?_⟩
  ·exact flat9_length _
  ·intro u hu
   obtain ⟨x,_,hu⟩:=List.mem_flatMap.1 hu
   simp [ActT.cells] at hu
   rcases hu with rfl | rfl | rfl | rfl | rfl | rfl | rfl | rfl | rfl <;> rfl
  ·intro j u hj
   have hjl:j < acts.length * 9:=by
    have h1:=(List.getElem?_eq_some_iff.1 hj).1
    have h2:=flat9_length acts
    omega
   obtain ⟨x,hx⟩:∃ x,acts[j / 9]? = some x:=⟨_,List.getElem?_eq_getElem (by omega)⟩
   have h3:=flat9_get hx (j % 9) (by omega)
   rw [show j / 9 * 9 + j % 9 = j by omega] at h3
   have:=hap _ x hx (j % 9) u (by rw [<- h3];exact hj)
   rwa [show j / 9 * 9 + j % 9 = j by omega] at this
  ·have:=hz ((l + (m - l)) * 96) (by
    show _ ∈ x1.weights Tryz.prog 22
    rw [hx]
    simp only [DataW.weights,Tryz.underlying22,List.length_map,List.length_range,Tryz.bytesAct9,List.mem_cons,true_or])
   rw [hal]
   simp only [reachBytes] at this
   omega
theorem open_act9s {H:Type} {enc:TypeId × Value -> H} {w:World} {base:Nat} {ao:Option Addr} {len cap:Nat} {d:DataW H} {p:List MemPlace}
 (h:DataW.Trod enc Tryz.prog w base (fun _=>true) true 22 (.slice ao len cap) d p) (hz:∀ m ∈ d.weights Tryz.prog 22,m <= reachBytes) :
 ∃ acts:List ActT,acts.length = len /\ Srcs w (.slice ao acts.length cap) acts.length 9 (flat9 acts) /\ acts.length * 96 <= 140737488351232:=by
 obtain ⟨fuel,hf⟩:=h
 have hf:DataW.trod enc Tryz.prog w base (fun _=>true) true fuel 22 [.slice ao len cap] = some (d,p):=hf
 obtain ⟨a,c,acts,e,hs,hb⟩:=in_act9s hf hz
 simp only [List.cons.injEq,Value.slice.injEq,and_true] at e
 obtain ⟨rfl,rfl,rfl⟩:=e
 exact ⟨acts,rfl,hs,hb⟩
end
section
variable {T:Tr} {m:Nat}
theorem TInv.act (h:TInv T) (a:ActT):TInv (actT m T a):=by
 unfold actT
 split
 ·exact TInv.makes h
 ·split
  ·exact TInv.linkt h
  ·split
   ·exact TInv.unlinks h
   ·split
    ·exact TInv.write h
    ·split
     ·exact TInv.cut h
     ·split
      ·exact TInv.holds h
      ·split
       ·exact TInv.drops h
       ·exact h
theorem held_set (T:Tr) {n:Nat} {x:TN} (h:x.held <= (T n).held + 1) (k:Nat):(setT T n x k).held <= (T k).held + 1:=by
 by_cases e:k = n
 ·subst e;rw [setT_at];exact h
 ·rw [setT_ne _ _ e];omega
theorem held_put (T:Tr) (d:Nat) (y:Nat × ByteArray) (k:Nat):(putT T d y k).held = (T k).held:=setT_proj (T:=T) (n:=d) (fun x=>x.held) (x:={ T d with slots:=putL y (T d).slots }) rfl k
theorem held_same (U:Tr) {n:Nat} {x:TN} (h:x.held = (U n).held) (k:Nat):(setT U n x k).held = (U k).held:=setT_proj (T:=U) (n:=n) (fun x=>x.held) (x:=x) h k
theorem held_sweep (T:Tr) (n k:Nat):(sweepT T n k).held <= (T k).held:=by
 unfold sweepT
 split
 ·by_cases e:k = n
  ·subst e;rw [setT_at];exact Nat.zero_le _
  ·rw [setT_ne _ _ e];exact Nat.le_refl _
 ·exact Nat.le_refl _
theorem held_act (a:ActT) (k:Nat):(actT m T a k).held <= (T k).held + 1:=by
 unfold actT
 split
 ·unfold makeT
  split
  ·exact Nat.le_succ _
  ·simp only
   split
   ·exact Nat.le_succ _
   ·split
    ·exact Nat.le_succ _
    ·split
     ·exact Nat.le_succ _
     ·split
      ·show (makeU T _ _ _ _ k).held <= _
       unfold makeU
       rw [held_put]
       exact held_set T (Nat.zero_le _) k
      ·exact Nat.le_succ _
 ·split
  ·unfold linkT
   simp only
   split
   ·exact Nat.le_succ _
   ·split
    ·exact Nat.le_succ _
    ·split
     ·exact Nat.le_succ _
     ·split
      ·exact Nat.le_succ _
      ·split
       ·exact Nat.le_succ _
       ·split
        ·show (linkU T _ _ _ k).held <= _
         unfold linkU
         rw [held_put]
         (refine held_set T ?_ k;exact Nat.le_succ _)
        ·exact Nat.le_succ _
  ·split
   ·unfold unlinkT
    simp only
    split
    ·exact Nat.le_succ _
    ·split
     ·exact Nat.le_succ _
     ·split
      ·exact Nat.le_succ _
      ·show (unlinkU T _ _ _ k).held <= _
       unfold unlinkU
       simp only
       refine Nat.le_trans (held_sweep _ _ k) ?_
       rw [held_same,held_same]
       ·exact Nat.le_succ _
       ·rfl
       ·rfl
   ·split
    ·unfold writeT
     split
     ·exact Nat.le_succ _
     ·split
      ·exact Nat.le_succ _
      ·(refine held_set T ?_ k;exact Nat.le_succ _)
    ·split
     ·unfold cutT
      split
      ·exact Nat.le_succ _
      ·(refine held_set T ?_ k;exact Nat.le_succ _)
     ·split
      ·unfold holdT
       split
       ·exact Nat.le_succ _
       ·(refine held_set T ?_ k;exact Nat.le_refl _)
      ·split
       ·unfold dropT
        split
        ·exact Nat.le_succ _
        ·split
         ·exact Nat.le_succ _
         ·refine Nat.le_trans (held_sweep _ _ k) (held_set T ?_ k)
          show _ - 1 <= _ + 1
          omega
       ·exact Nat.le_succ _
theorem fresh_held (k:Nat):(freshT k).held = 0:=by
 unfold freshT
 by_cases e:k = 0
 ·subst e;rfl
 ·rw [setT_ne _ _ e];rfl
end
theorem act_at {w:World} {ao:Option Addr} {n cap:Nat} {acts:List ActT} (hS:Srcs w (.slice ao n cap) n 9 (flat9 acts)) {i:Nat} {a:ActT} (ha:acts[i]? = some a) :
 ∃ g off,ao = some ⟨g,off,none⟩ /\ ∀ j v,a.cells[j]? = some v -> w.cell? ⟨g,off + i * 9 + j,none⟩ = some v:=by
 obtain ⟨g,off,e,_⟩:=hS.at (j:=i * 9 + 0) (by rw [flat9_get ha 0 (by omega)];rfl)
 refine ⟨g,off,e,fun j v hj=>?_⟩
 have hj9:j < 9:=(List.getElem?_eq_some_iff.1 hj).1
 obtain ⟨g1,o1,e1,c1⟩:=hS.at (j:=i * 9 + j) (by rw [flat9_get ha j hj9];exact hj)
 rw [e] at e1
 simp only [Option.some.injEq,Addr.mk.injEq,and_true] at e1
 obtain ⟨rfl,rfl⟩:=e1
 rw [Nat.add_assoc]
 exact c1
def MadeP (w:World) (e:Ending) (w':World):Prop:=∃ d t b v T,e = .returned (.pointer (some ⟨t,0,none⟩)) /\ TInv T /\ TV (-1) Nob w t v b d 88 T Emp w'
theorem lmade_calls {acts:List ActT} {ao:Option Addr} {cap:Nat} {w:World} (hS:Srcs w (.slice ao acts.length cap) acts.length 9 (flat9 acts)) (hb:acts.length * 96 <= 140737488351232) :
 Calls Tryz.prog 12 #[.slice ao acts.length cap] w (MadeP w):=by
 have LS:Lv Nob w Emp w:=(Live.start w).lv
 have hfr:=lfresh_calls loc_emp LS 120
 have h88:freshN 120 - 32 = 88:=rfl
 rw [h88] at hfr
 have HFR:=hid hfr
 have hn15:acts.length <= 1500000000000:=by omega
 have HS:=hid hS
 obtain ⟨n,hn⟩:∃ n,n = acts.length:=⟨_,rfl⟩
 have HN:=hid hn
 rw [<- hn] at hn15 ⊢
 clear LS hfr h88 hS hb hn
 go_enter Tryz.func12,Tryz.ntmps12
 go_wp2_with fail
 refine HFR.out.mono ?_
 rintro e w1 ⟨d,t,b,v,r,rfl,V1⟩
 have HV1:=hid V1
 clear V1 HFR
 go_wp2_with fail
 go_loopw [6] (fun s6 wr=>∃ (i:Nat) (T:Tr),i <= n /\ s6 = .int .i64 i /\ Hid (TInv T /\ (∀ k,(T k).held <= i) /\ TV (-1) Nob w t v b d 88 T (Star (docX r 88 T) Emp) wr)) (fun s6 _=>n - (intOf s6).toNat)
 case atStart=>exact ⟨0,freshT,Nat.zero_le _,rfl,hid ⟨fresh_inv,fun k=>Nat.le_of_eq (fresh_held k),HV1.out⟩⟩
 case round =>
  obtain ⟨i,T,hi,rfl,HV⟩:=hrel
  clear HV1
  by_cases hlt:i < n
  ·have hlt2:(i:Int) < (n:Int):=by omega
   have hlen:i < acts.length:=by rw [<- HN.out];exact hlt
   obtain ⟨a,ha⟩:∃ a,acts[i]? = some a:=⟨_,List.getElem?_eq_getElem hlen⟩
   obtain ⟨g,off,hao,hc⟩:=act_at HS.out ha
   subst hao
   have hf:=VT.fr HV.out.2.2
   have q0:wr.cell? ⟨g,off + i * 9,none⟩ = some (.int .i64 a.kind):=hf.cell (by simpa using hc 0 _ rfl) (fun h=>h)
   have q1:=hf.cell (hc 1 _ rfl) (fun h=>h)
   have q2:=hf.cell (hc 2 _ rfl) (fun h=>h)
   have q3:=hf.cell (hc 3 _ rfl) (fun h=>h)
   have q4:=hf.cell (hc 4 _ rfl) (fun h=>h)
   have q5:=hf.cell (hc 5 _ rfl) (fun h=>h)
   have q6:=hf.cell (hc 6 _ rfl) (fun h=>h)
   have q7:=hf.cell (hc 7 _ rfl) (fun h=>h)
   have q8:=hf.cell (hc 8 _ rfl) (fun h=>h)
   have HD:=hid (ldoes_calls a HV.out.2.2 loc_emp HV.out.1 (fun k _=>by have:=HV.out.2.1 k;omega))
   have HI2:Hid (TInv (actT 88 T a) /\ ∀ k,(actT 88 T a k).held <= i + 1):=hid ⟨HV.out.1.act a,fun k=>by have:=held_act (m:=88) (T:=T) a k;have:=HV.out.2.1 k;omega⟩
   clear hc hf ha HV
   go_wp2_with fail
   refine HD.out.mono ?_
   rintro e w2 ⟨rfl,V2⟩
   have HV2:Hid (TInv (actT 88 T a) /\ (∀ k,(actT 88 T a k).held <= i + 1) /\ TV (-1) Nob w t v b d 88 (actT 88 T a) (Star (docX r 88 (actT 88 T a)) Emp) w2):=hid ⟨HI2.out.1,HI2.out.2,V2⟩
   clear V2 HD q0 q1 q2 q3 q4 q5 q6 q7 q8
   go_wp2_with fail
   go_roundw
   case rel=>exact ⟨i + 1,_,hlt,by go_num,HV2⟩
   case measure=>simp [intOf] <;> omega
  ·obtain rfl:i = n:=by omega
   have hlt2:¬ (i:Int) < (i:Int):=by omega
   have HX:Hid (TV (-1) Nob w t v b d 88 T Emp wr):=hid (VT.map HV.out.2.2 fun _ _ h=>star_less h)
   have HI2:=hid HV.out.1
   clear HV
   go_wp2_with fail
   go_ret
   exact ⟨d,t,b,v,T,rfl,HI2.out,HX.out⟩
end Go.Proofs.YtngalllaiphkhaaGreatDoor
