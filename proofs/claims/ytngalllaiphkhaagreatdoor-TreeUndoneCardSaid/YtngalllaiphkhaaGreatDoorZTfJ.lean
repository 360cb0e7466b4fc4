import Derived.Test.YtngalllaiphkhaaGreatDoorZUE
namespace Go.Proofs.YtngalllaiphkhaaGreatDoor
set_option maxRecDepth 100000
set_option maxHeartbeats 16000000
set_option linter.unusedVariables false
set_option linter.unusedSimpArgs false
section
open Go.ChangeShapes Go.WideShapes Go.ChangeAt Go.RowKit Go.Deep
theorem weights_part9 {H:Type} {P:Program} {t:TypeId} {fs:Array Field} {parts:List (DataW H)} (ht:P.underlying t = some (.struct fs)) {j:Nat} {f:Field} {d:DataW H} (hf:fs[j]? = some f) (hd:parts[j]? = some d) {n:Nat} (hn:n ∈ d.weights P f.type) :
 n ∈ (DataW.agg parts).weights P t:=by
 simp only [DataW.weights,ht]
 exact DataW.weights_mem_each (j:=j) (by simp [hf]) hd n hn
theorem open_links {H:Type} {enc:TypeId × Value -> H} {w:World} {base:Nat} {x:Array Value} {d:DataW H} {p:List MemPlace}
 (h:DataW.Trod enc Tryz.prog w base (fun _=>true) true 35 (.agg x) d p) (hz:∀ m ∈ d.weights Tryz.prog 35,m <= reachBytes) :
 ∃ (ao:Option Addr) (cap:Nat) (acts:List ActT) (a:ByteArray) (b:ByteArray) (s:ByteArray),x = #[.slice ao acts.length cap,.string a,.string b,.string s] /\
  Srcs w (.slice ao acts.length cap) acts.length 9 (flat9 acts) /\ acts.length * 96 <= 140737488351232:=by
 obtain ⟨fuel,hf⟩:=h
 have hf:DataW.trod enc Tryz.prog w base (fun _=>true) true fuel 35 x.toList = some (d,p):=hf
 obtain ⟨cs,hcs⟩:∃ cs,cs = x.toList:=⟨_,rfl⟩
 rw [<- hcs] at hf
 obtain ⟨xs,n,_,hx,hlen,hxl,hf⟩:=DataW.trod_struct Tryz.underlying35 hf
 have hlen:cs.length = 4:=hlen.trans (by kernel_rfl)
 have hxl:xs.length = 4:=hxl.trans (by kernel_rfl)
 have ca:Tryz.prog.cellsOf 22 = 1:=by kernel_rfl
 have cint:Tryz.prog.cellsOf 3 = 1:=by kernel_rfl
 have cstring:Tryz.prog.cellsOf 9 = 1:=by kernel_rfl
 obtain ⟨y0,e0⟩:∃ y,xs[0]? = some y:=⟨_,List.getElem?_eq_getElem (by omega)⟩
 obtain ⟨y1,e1⟩:∃ y,xs[1]? = some y:=⟨_,List.getElem?_eq_getElem (by omega)⟩
 obtain ⟨y2,e2⟩:∃ y,xs[2]? = some y:=⟨_,List.getElem?_eq_getElem (by omega)⟩
 obtain ⟨y3,e3⟩:∃ y,xs[3]? = some y:=⟨_,List.getElem?_eq_getElem (by omega)⟩
 have g0:DataW.trod enc Tryz.prog w base (fun _=>true) true n 22 ((cs.drop 0).take 1) = some y0:=by rw [<- ca,<- e0];exact hf 0 _ rfl
 have g1:DataW.trod enc Tryz.prog w base (fun _=>true) true n 9 ((cs.drop 1).take 1) = some y1:=by rw [<- cstring,<- e1];exact hf 1 _ rfl
 have g2:DataW.trod enc Tryz.prog w base (fun _=>true) true n 9 ((cs.drop 2).take 1) = some y2:=by rw [<- cstring,<- e2];exact hf 2 _ rfl
 have g3:DataW.trod enc Tryz.prog w base (fun _=>true) true n 9 ((cs.drop 3).take 1) = some y3:=by rw [<- cstring,<- e3];exact hf 3 _ rfl
 obtain ⟨ao,cap,acts,k0,s0,b0⟩:=in_act9s g0 (fun m hm=>hz m (by
  have hx:d = .agg (xs.map (·.1)):=(Prod.mk.inj hx).1
  rw [hx];exact weights_part9 (j:=0) Tryz.underlying35 rfl (by rw [List.getElem?_map,e0];rfl) hm))
 obtain ⟨a,k1,_,_⟩:=DataW.trod_string Tryz.underlying9 g1
 obtain ⟨b,k2,_,_⟩:=DataW.trod_string Tryz.underlying9 g2
 obtain ⟨s,k3,_,_⟩:=DataW.trod_string Tryz.underlying9 g3
 refine ⟨ao,cap,acts,a,b,s,?_,s0,b0⟩
 rw [<- Array.toArray_toList (xs:=x),<- hcs]
 match cs,hlen with
 | [c0,c1,c2,c3],_ =>
  simp at k0 k1 k2 k3
  subst k0 k1 k2 k3
  rfl
theorem open_undone {H:Type} {enc:TypeId × Value -> H} {w:World} {base:Nat} {x:Array Value} {d:DataW H} {p:List MemPlace}
 (h:DataW.Trod enc Tryz.prog w base (fun _=>true) true 49 (.agg x) d p) (hz:∀ m ∈ d.weights Tryz.prog 49,m <= reachBytes) :
 ∃ (ao:Option Addr) (cap:Nat) (acts:List ActT) (i:Int) (s:ByteArray) (k:Int),x = #[.slice ao acts.length cap,.int .i64 i,.string s,.int .i64 k] /\
  Srcs w (.slice ao acts.length cap) acts.length 9 (flat9 acts) /\ acts.length * 96 <= 140737488351232:=by
 obtain ⟨fuel,hf⟩:=h
 have hf:DataW.trod enc Tryz.prog w base (fun _=>true) true fuel 49 x.toList = some (d,p):=hf
 obtain ⟨cs,hcs⟩:∃ cs,cs = x.toList:=⟨_,rfl⟩
 rw [<- hcs] at hf
 obtain ⟨xs,n,_,hx,hlen,hxl,hf⟩:=DataW.trod_struct Tryz.underlying49 hf
 have hlen:cs.length = 4:=hlen.trans (by kernel_rfl)
 have hxl:xs.length = 4:=hxl.trans (by kernel_rfl)
 have ca:Tryz.prog.cellsOf 22 = 1:=by kernel_rfl
 have cint:Tryz.prog.cellsOf 3 = 1:=by kernel_rfl
 have cstring:Tryz.prog.cellsOf 9 = 1:=by kernel_rfl
 obtain ⟨y0,e0⟩:∃ y,xs[0]? = some y:=⟨_,List.getElem?_eq_getElem (by omega)⟩
 obtain ⟨y1,e1⟩:∃ y,xs[1]? = some y:=⟨_,List.getElem?_eq_getElem (by omega)⟩
 obtain ⟨y2,e2⟩:∃ y,xs[2]? = some y:=⟨_,List.getElem?_eq_getElem (by omega)⟩
 obtain ⟨y3,e3⟩:∃ y,xs[3]? = some y:=⟨_,List.getElem?_eq_getElem (by omega)⟩
 have g0:DataW.trod enc Tryz.prog w base (fun _=>true) true n 22 ((cs.drop 0).take 1) = some y0:=by rw [<- ca,<- e0];exact hf 0 _ rfl
 have g1:DataW.trod enc Tryz.prog w base (fun _=>true) true n 3 ((cs.drop 1).take 1) = some y1:=by rw [<- cint,<- e1];exact hf 1 _ rfl
 have g2:DataW.trod enc Tryz.prog w base (fun _=>true) true n 9 ((cs.drop 2).take 1) = some y2:=by rw [<- cstring,<- e2];exact hf 2 _ rfl
 have g3:DataW.trod enc Tryz.prog w base (fun _=>true) true n 3 ((cs.drop 3).take 1) = some y3:=by rw [<- cint,<- e3];exact hf 3 _ rfl
 obtain ⟨ao,cap,acts,k0,s0,b0⟩:=in_act9s g0 (fun m hm=>hz m (by
  have hx:d = .agg (xs.map (·.1)):=(Prod.mk.inj hx).1
  rw [hx];exact weights_part9 (j:=0) Tryz.underlying49 rfl (by rw [List.getElem?_map,e0];rfl) hm))
 obtain ⟨i,k1,_,_⟩:=DataW.trod_int Tryz.underlying3 g1
 obtain ⟨s,k2,_,_⟩:=DataW.trod_string Tryz.underlying9 g2
 obtain ⟨k,k3,_,_⟩:=DataW.trod_int Tryz.underlying3 g3
 refine ⟨ao,cap,acts,i,s,k,?_,s0,b0⟩
 rw [<- Array.toArray_toList (xs:=x),<- hcs]
 match cs,hlen with
 | [c0,c1,c2,c3],_ =>
  simp at k0 k1 k2 k3
  subst k0 k1 k2 k3
  rfl
end
end Go.Proofs.YtngalllaiphkhaaGreatDoor
