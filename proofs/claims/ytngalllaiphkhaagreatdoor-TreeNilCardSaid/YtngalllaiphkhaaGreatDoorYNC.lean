import Derived.Test.YtngalllaiphkhaaGreatDoorYMJ
namespace Go.Proofs.YtngalllaiphkhaaGreatDoor
open Go.RowKit
open Go.Lib (hid)
set_option maxRecDepth 100000
set_option maxHeartbeats 16000000
def decTo (s:ByteArray) (i:Nat):Ino:=⟨byteAt s 0,byteAt s 1,twoAt s 2,if 0 < i then twoAt s 4 else 0,if 1 < i then twoAt s 6 else 0,if 2 < i then twoAt s 8 else 0,if 3 < i then twoAt s 10 else 0,if 4 < i then twoAt s 12 else 0,if 5 < i then twoAt s 14 else 0⟩
theorem vdecode_calls {s:ByteArray} (hs:s.size = 16) (w:World) :
 Calls Tryz.prog 154 #[.string s] w fun e w'=>e = .returned (inoV (decodeP s)) /\ Fr Nob w w':=by
 have hsi:(s.size:Int) = 16:=by omega
 have d0:∀ W:World,(Instr.index 9 (.string s) (.int .i64 0)).run Tryz.prog W = .ok (.int .u8 (byteAt s 0:Int)) W:=fun W=>by
  rw [byteAt_get (by omega)];exact run_index_at (by omega) (by omega)
 have d1:∀ W:World,(Instr.index 9 (.string s) (.int .i64 1)).run Tryz.prog W = .ok (.int .u8 (byteAt s 1:Int)) W:=fun W=>by
  rw [byteAt_get (by omega)];exact run_index_at (by omega) (by omega)
 have HO:Hid (∀ W:World,Calls Tryz.prog 116 #[.string (s.extract 2 4)] W fun e w'=>e = .returned (.int .u64 (twoAt s 2:Nat)) /\ Fr Nob W w'):=hid fun W=>by
  have h:=wof_calls (s.extract 2 4) W (by rw [ByteArray.size_extract];omega)
  rw [le_at (i:=2) (by omega)] at h
  exact h
 have hb0:=byteAt_lt s 0
 have hb1:=byteAt_lt s 1
 have ht:=twoAt_lt s 2
 go_enter Tryz.func154,Tryz.ntmps154
 go_wp2_with fail
 have hof:∀ i,i + 2 <= 16 -> ∀ W:World,Calls Tryz.prog 116 #[.string (s.extract i (i + 2))] W fun e w'=>e = .returned (.int .u64 (twoAt s i:Nat)) /\ Fr Nob W w':=fun i hi W=>by
  have h:=wof_calls (s.extract i (i + 2)) W (by rw [ByteArray.size_extract];omega)
  rw [le_at (i:=i) (by omega)] at h
  exact h
 have HOF:=hid hof
 clear hof
 have zc:∀ W:World,Fr Nob ((w.alloc (.cells #[.int .i64 0,.int .i64 0,.int .i64 0,.int .i64 0,.int .i64 0,.int .i64 0,.int .i64 0,.int .i64 0,.int .i64 0] tIno)).alloc (.cells #[.int .i64 0,.int .i64 0,.int .i64 0,.int .i64 0,.int .i64 0,.int .i64 0,.int .i64 0,.int .i64 0,.int .i64 0] tIno)).drew W -> Blk W (w.heap.size + 1) tIno [.int .i64 0,.int .i64 0,.int .i64 0,.int .i64 0,.int .i64 0,.int .i64 0,.int .i64 0,.int .i64 0,.int .i64 0]:=fun W hf=>by
  have h:=Blk.new (w.alloc (.cells #[.int .i64 0,.int .i64 0,.int .i64 0,.int .i64 0,.int .i64 0,.int .i64 0,.int .i64 0,.int .i64 0,.int .i64 0] tIno)) tIno [.int .i64 0,.int .i64 0,.int .i64 0,.int .i64 0,.int .i64 0,.int .i64 0,.int .i64 0,.int .i64 0,.int .i64 0]
  rw [World.size_alloc] at h
  exact h.drew.fr hf (fun h=>h)
 have ZC:=hid zc
 clear zc
 have e0:IntKind.i64.wrap ((byteAt s 0:Nat):Int) = ((byteAt s 0:Nat):Int):=by rw [IntKind.wrap_i64];omega
 have e1:IntKind.i64.wrap ((byteAt s 1:Nat):Int) = ((byteAt s 1:Nat):Int):=by rw [IntKind.wrap_i64];omega
 have e2:IntKind.i64.wrap ((twoAt s 2:Nat):Int) = ((twoAt s 2:Nat):Int):=by rw [IntKind.wrap_i64];omega
 go_region_held3 (fun _=>True)
  (first | go_keep | trivial)
  (first | (go_at_call 116;refine (HO.out _).mono ?_;rintro e w3 ⟨rfl,hf3⟩;try (have hb3:=ZC.out _ hf3;have z0:=hb3.cell (j:=0) rfl;have y0:=hb3.free 0;have z1:=hb3.cell (j:=1) rfl;have y1:=hb3.free 1;have z2:=hb3.cell (j:=2) rfl;have y2:=hb3.free 2;have z3:=hb3.cell (j:=3) rfl;have y3:=hb3.free 3;have z4:=hb3.cell (j:=4) rfl;have y4:=hb3.free 4;have z5:=hb3.cell (j:=5) rfl;have y5:=hb3.free 5;have z6:=hb3.cell (j:=6) rfl;have y6:=hb3.free 6;have z7:=hb3.cell (j:=7) rfl;have y7:=hb3.free 7;have z8:=hb3.cell (j:=8) rfl;have y8:=hb3.free 8;clear hb3)))
 -- TAIL
 all_goals
  first
  | (
   have hbp:=(((((((((ZC.out _ hf3).set 0 (.int .i64 (byteAt s 0:Nat))).set 1 (.int .i64 (byteAt s 1:Nat))).set 2 (.int .i64 (twoAt s 2:Nat))).set 3 (.int .i64 0)).set 4 (.int .i64 0)).set 5 (.int .i64 0)).set 6 (.int .i64 0)).set 7 (.int .i64 0)).set 8 (.int .i64 0)
   have hbp:Blk _ (w.heap.size + 1) tIno (inoL (decTo s 0)):=hbp
   have hb2:Blk w3 w.heap.size tIno [.int .i64 0,.int .i64 0,.int .i64 0,.int .i64 0,.int .i64 0,.int .i64 0,.int .i64 0,.int .i64 0,.int .i64 0]:=((((Blk.new w tIno [.int .i64 0,.int .i64 0,.int .i64 0,.int .i64 0,.int .i64 0,.int .i64 0,.int .i64 0,.int .i64 0,.int .i64 0]).alloc _).drew).fr hf3 (fun h=>h))
   have hb2':=((((((((hb2.set_ne (c:=w.heap.size + 1) (by omega) 0 (.int .i64 (byteAt s 0:Nat))).set_ne (c:=w.heap.size + 1) (by omega) 1 (.int .i64 (byteAt s 1:Nat))).set_ne (c:=w.heap.size + 1) (by omega) 2 (.int .i64 (twoAt s 2:Nat))).set_ne (c:=w.heap.size + 1) (by omega) 3 (.int .i64 0)).set_ne (c:=w.heap.size + 1) (by omega) 4 (.int .i64 0)).set_ne (c:=w.heap.size + 1) (by omega) 5 (.int .i64 0)).set_ne (c:=w.heap.size + 1) (by omega) 6 (.int .i64 0)).set_ne (c:=w.heap.size + 1) (by omega) 7 (.int .i64 0)).set_ne (c:=w.heap.size + 1) (by omega) 8 (.int .i64 0)
   have hF:Fr Nob w w3:=((((Fr.refl Nob w).alloc _).alloc _).drew).trans hf3
   have hF':=((((((((hF.set (b:=w.heap.size + 1) (.inr (by omega)) 0 (.int .i64 (byteAt s 0:Nat))).set (b:=w.heap.size + 1) (.inr (by omega)) 1 (.int .i64 (byteAt s 1:Nat))).set (b:=w.heap.size + 1) (.inr (by omega)) 2 (.int .i64 (twoAt s 2:Nat))).set (b:=w.heap.size + 1) (.inr (by omega)) 3 (.int .i64 0)).set (b:=w.heap.size + 1) (.inr (by omega)) 4 (.int .i64 0)).set (b:=w.heap.size + 1) (.inr (by omega)) 5 (.int .i64 0)).set (b:=w.heap.size + 1) (.inr (by omega)) 6 (.int .i64 0)).set (b:=w.heap.size + 1) (.inr (by omega)) 7 (.int .i64 0)).set (b:=w.heap.size + 1) (.inr (by omega)) 8 (.int .i64 0)
   have hHP:w.heap.size < w.heap.size + 1:=by omega
   clear hf3
   go_wp2_with fail
   go_loopw [4,16] (fun s4 s16 wr=>∃ k:Nat,k <= 6 /\ s16 = .int .i64 k /\ Blk wr (w.heap.size + 1) tIno (inoL (decTo s k)) /\ Blk wr w.heap.size tIno [.int .i64 0,.int .i64 0,.int .i64 0,.int .i64 0,.int .i64 0,.int .i64 0,.int .i64 0,.int .i64 0,.int .i64 0] /\ Fr Nob w wr) (fun _ s16 _=>6 - (intOf s16).toNat)
   case atStart=>exact ⟨0,by omega,rfl,hbp,hb2',hF'⟩
   case round =>
    obtain ⟨k,hk,rfl,hbk,hb2k,hfk⟩:=hrel
    clear hbp hb2' hF'
    obtain rfl | rfl | rfl | rfl | rfl | rfl | rfl:k = 0 \/ k = 1 \/ k = 2 \/ k = 3 \/ k = 4 \/ k = 5 \/ k = 6:=by omega
    ·have cc:=hbk.cell (j:=3 + 0) rfl
     have ff:=hbk.free (3 + 0)
     clear hk
     go_wp2_with fail
     refine (HOF.out 4 (by omega) _).mono ?_
     rintro e w5 ⟨rfl,hf5⟩
     have hb5:=hbk.fr hf5 (fun h=>h)
     have cc5:=hb5.cell (j:=3 + 0) rfl
     have ff5:=hb5.free (3 + 0)
     have ht5:=twoAt_lt s 4
     have he5:IntKind.i64.wrap ((twoAt s 4:Nat):Int) = ((twoAt s 4:Nat):Int):=by rw [IntKind.wrap_i64];omega
     have HB5:=hid hb5
     have HB6:=hid (hb2k.fr hf5 (fun h=>h))
     have HF6:=hid (hfk.trans hf5)
     have hlt5:=hHP
     clear hb5 hbk hb2k hfk hf5 cc ff
     go_wp2_with fail
     go_roundw
     case rel=>exact ⟨1,by omega,rfl,HB5.out.set (3 + 0) _,HB6.out.set_ne (by omega) _ _,HF6.out.set (.inr (by omega)) _ _⟩
     case measure=>simp [intOf]
    ·have cc:=hbk.cell (j:=3 + 1) rfl
     have ff:=hbk.free (3 + 1)
     clear hk
     go_wp2_with fail
     refine (HOF.out 6 (by omega) _).mono ?_
     rintro e w5 ⟨rfl,hf5⟩
     have hb5:=hbk.fr hf5 (fun h=>h)
     have cc5:=hb5.cell (j:=3 + 1) rfl
     have ff5:=hb5.free (3 + 1)
     have ht5:=twoAt_lt s 6
     have he5:IntKind.i64.wrap ((twoAt s 6:Nat):Int) = ((twoAt s 6:Nat):Int):=by rw [IntKind.wrap_i64];omega
     have HB5:=hid hb5
     have HB6:=hid (hb2k.fr hf5 (fun h=>h))
     have HF6:=hid (hfk.trans hf5)
     have hlt5:=hHP
     clear hb5 hbk hb2k hfk hf5 cc ff
     go_wp2_with fail
     go_roundw
     case rel=>exact ⟨2,by omega,rfl,HB5.out.set (3 + 1) _,HB6.out.set_ne (by omega) _ _,HF6.out.set (.inr (by omega)) _ _⟩
     case measure=>simp [intOf]
    ·have cc:=hbk.cell (j:=3 + 2) rfl
     have ff:=hbk.free (3 + 2)
     clear hk
     go_wp2_with fail
     refine (HOF.out 8 (by omega) _).mono ?_
     rintro e w5 ⟨rfl,hf5⟩
     have hb5:=hbk.fr hf5 (fun h=>h)
     have cc5:=hb5.cell (j:=3 + 2) rfl
     have ff5:=hb5.free (3 + 2)
     have ht5:=twoAt_lt s 8
     have he5:IntKind.i64.wrap ((twoAt s 8:Nat):Int) = ((twoAt s 8:Nat):Int):=by rw [IntKind.wrap_i64];omega
     have HB5:=hid hb5
     have HB6:=hid (hb2k.fr hf5 (fun h=>h))
     have HF6:=hid (hfk.trans hf5)
     have hlt5:=hHP
     clear hb5 hbk hb2k hfk hf5 cc ff
     go_wp2_with fail
     go_roundw
     case rel=>exact ⟨3,by omega,rfl,HB5.out.set (3 + 2) _,HB6.out.set_ne (by omega) _ _,HF6.out.set (.inr (by omega)) _ _⟩
     case measure=>simp [intOf]
    ·have cc:=hbk.cell (j:=3 + 3) rfl
     have ff:=hbk.free (3 + 3)
     clear hk
     go_wp2_with fail
     refine (HOF.out 10 (by omega) _).mono ?_
     rintro e w5 ⟨rfl,hf5⟩
     have hb5:=hbk.fr hf5 (fun h=>h)
     have cc5:=hb5.cell (j:=3 + 3) rfl
     have ff5:=hb5.free (3 + 3)
     have ht5:=twoAt_lt s 10
     have he5:IntKind.i64.wrap ((twoAt s 10:Nat):Int) = ((twoAt s 10:Nat):Int):=by rw [IntKind.wrap_i64];omega
     have HB5:=hid hb5
     have HB6:=hid (hb2k.fr hf5 (fun h=>h))
     have HF6:=hid (hfk.trans hf5)
     have hlt5:=hHP
     clear hb5 hbk hb2k hfk hf5 cc ff
     go_wp2_with fail
     go_roundw
     case rel=>exact ⟨4,by omega,rfl,HB5.out.set (3 + 3) _,HB6.out.set_ne (by omega) _ _,HF6.out.set (.inr (by omega)) _ _⟩
     case measure=>simp [intOf]
    ·have cc:=hbk.cell (j:=3 + 4) rfl
     have ff:=hbk.free (3 + 4)
     clear hk
     go_wp2_with fail
     refine (HOF.out 12 (by omega) _).mono ?_
     rintro e w5 ⟨rfl,hf5⟩
     have hb5:=hbk.fr hf5 (fun h=>h)
     have cc5:=hb5.cell (j:=3 + 4) rfl
     have ff5:=hb5.free (3 + 4)
     have ht5:=twoAt_lt s 12
     have he5:IntKind.i64.wrap ((twoAt s 12:Nat):Int) = ((twoAt s 12:Nat):Int):=by rw [IntKind.wrap_i64];omega
     have HB5:=hid hb5
     have HB6:=hid (hb2k.fr hf5 (fun h=>h))
     have HF6:=hid (hfk.trans hf5)
     have hlt5:=hHP
     clear hb5 hbk hb2k hfk hf5 cc ff
     go_wp2_with fail
     go_roundw
     case rel=>exact ⟨5,by omega,rfl,HB5.out.set (3 + 4) _,HB6.out.set_ne (by omega) _ _,HF6.out.set (.inr (by omega)) _ _⟩
     case measure=>simp [intOf]
    ·have cc:=hbk.cell (j:=3 + 5) rfl
     have ff:=hbk.free (3 + 5)
     clear hk
     go_wp2_with fail
     refine (HOF.out 14 (by omega) _).mono ?_
     rintro e w5 ⟨rfl,hf5⟩
     have hb5:=hbk.fr hf5 (fun h=>h)
     have cc5:=hb5.cell (j:=3 + 5) rfl
     have ff5:=hb5.free (3 + 5)
     have ht5:=twoAt_lt s 14
     have he5:IntKind.i64.wrap ((twoAt s 14:Nat):Int) = ((twoAt s 14:Nat):Int):=by rw [IntKind.wrap_i64];omega
     have HB5:=hid hb5
     have HB6:=hid (hb2k.fr hf5 (fun h=>h))
     have HF6:=hid (hfk.trans hf5)
     have hlt5:=hHP
     clear hb5 hbk hb2k hfk hf5 cc ff
     go_wp2_with fail
     go_roundw
     case rel=>exact ⟨6,by omega,rfl,HB5.out.set (3 + 5) _,HB6.out.set_ne (by omega) _ _,HF6.out.set (.inr (by omega)) _ _⟩
     case measure=>simp [intOf]
    ·have k0:=hbk.cell (j:=0) rfl
     have k1:=hbk.cell (j:=1) rfl
     have k2:=hbk.cell (j:=2) rfl
     have k3:=hbk.cell (j:=3) rfl
     have k4:=hbk.cell (j:=4) rfl
     have k5:=hbk.cell (j:=5) rfl
     have k6:=hbk.cell (j:=6) rfl
     have k7:=hbk.cell (j:=7) rfl
     have k8:=hbk.cell (j:=8) rfl
     have z0:=hb2k.cell (j:=0) rfl
     have y0:=hb2k.free 0
     have z1:=hb2k.cell (j:=1) rfl
     have y1:=hb2k.free 1
     have z2:=hb2k.cell (j:=2) rfl
     have y2:=hb2k.free 2
     have z3:=hb2k.cell (j:=3) rfl
     have y3:=hb2k.free 3
     have z4:=hb2k.cell (j:=4) rfl
     have y4:=hb2k.free 4
     have z5:=hb2k.cell (j:=5) rfl
     have y5:=hb2k.free 5
     have z6:=hb2k.cell (j:=6) rfl
     have y6:=hb2k.free 6
     have z7:=hb2k.cell (j:=7) rfl
     have y7:=hb2k.free 7
     have z8:=hb2k.cell (j:=8) rfl
     have y8:=hb2k.free 8
     have hne:=hHP
     clear hk
     go_wp2_with fail
     have hb9:=(((((((((hb2k).set 0 (.int .i64 ((decTo s 6).kind:Nat))).set 1 (.int .i64 ((decTo s 6).links:Nat))).set 2 (.int .i64 ((decTo s 6).size:Nat))).set 3 (.int .i64 ((decTo s 6).a0:Nat))).set 4 (.int .i64 ((decTo s 6).a1:Nat))).set 5 (.int .i64 ((decTo s 6).a2:Nat))).set 6 (.int .i64 ((decTo s 6).a3:Nat))).set 7 (.int .i64 ((decTo s 6).a4:Nat))).set 8 (.int .i64 ((decTo s 6).a5:Nat))
     have hF9:=(((((((((hfk).set (b:=w.heap.size) (.inr (Nat.le_refl _)) 0 (.int .i64 ((decTo s 6).kind:Nat))).set (b:=w.heap.size) (.inr (Nat.le_refl _)) 1 (.int .i64 ((decTo s 6).links:Nat))).set (b:=w.heap.size) (.inr (Nat.le_refl _)) 2 (.int .i64 ((decTo s 6).size:Nat))).set (b:=w.heap.size) (.inr (Nat.le_refl _)) 3 (.int .i64 ((decTo s 6).a0:Nat))).set (b:=w.heap.size) (.inr (Nat.le_refl _)) 4 (.int .i64 ((decTo s 6).a1:Nat))).set (b:=w.heap.size) (.inr (Nat.le_refl _)) 5 (.int .i64 ((decTo s 6).a2:Nat))).set (b:=w.heap.size) (.inr (Nat.le_refl _)) 6 (.int .i64 ((decTo s 6).a3:Nat))).set (b:=w.heap.size) (.inr (Nat.le_refl _)) 7 (.int .i64 ((decTo s 6).a4:Nat))).set (b:=w.heap.size) (.inr (Nat.le_refl _)) 8 (.int .i64 ((decTo s 6).a5:Nat))
     have q0:=hb9.cell (j:=0) rfl
     have q1:=hb9.cell (j:=1) rfl
     have q2:=hb9.cell (j:=2) rfl
     have q3:=hb9.cell (j:=3) rfl
     have q4:=hb9.cell (j:=4) rfl
     have q5:=hb9.cell (j:=5) rfl
     have q6:=hb9.cell (j:=6) rfl
     have q7:=hb9.cell (j:=7) rfl
     have q8:=hb9.cell (j:=8) rfl
     have HF9:=hid hF9
     clear k0 k1 k2 k3 k4 k5 k6 k7 k8 z0 z1 z2 z3 z4 z5 z6 z7 z8 y0 y1 y2 y3 y4 y5 y6 y7 y8 hbk hb2k hfk hb9 hF9
     refine bodyPost_ret (by simp [results,Tryz.results154,go_sem,q0,q1,q2,q3,q4,q5,q6,q7,q8];try rfl) rfl ?_
     exact ⟨rfl,HF9.out⟩)
  | (
   have hbp:Blk (w3.alloc (.cells #[.int .i64 (byteAt s 0:Nat),.int .i64 (byteAt s 1:Nat),.int .i64 (twoAt s 2:Nat),.int .i64 0,.int .i64 0,.int .i64 0,.int .i64 0,.int .i64 0,.int .i64 0] tIno)) w3.heap.size tIno (inoL (decTo s 0)):=Blk.new w3 tIno [.int .i64 (byteAt s 0:Nat),.int .i64 (byteAt s 1:Nat),.int .i64 (twoAt s 2:Nat),.int .i64 0,.int .i64 0,.int .i64 0,.int .i64 0,.int .i64 0,.int .i64 0]
   have hb2':Blk (w3.alloc (.cells #[.int .i64 (byteAt s 0:Nat),.int .i64 (byteAt s 1:Nat),.int .i64 (twoAt s 2:Nat),.int .i64 0,.int .i64 0,.int .i64 0,.int .i64 0,.int .i64 0,.int .i64 0] tIno)) w.heap.size tIno [.int .i64 0,.int .i64 0,.int .i64 0,.int .i64 0,.int .i64 0,.int .i64 0,.int .i64 0,.int .i64 0,.int .i64 0]:=((((Blk.new w tIno [.int .i64 0,.int .i64 0,.int .i64 0,.int .i64 0,.int .i64 0,.int .i64 0,.int .i64 0,.int .i64 0,.int .i64 0]).drew).fr hf3 (fun h=>h)).alloc _)
   have hF':Fr Nob w (w3.alloc (.cells #[.int .i64 (byteAt s 0:Nat),.int .i64 (byteAt s 1:Nat),.int .i64 (twoAt s 2:Nat),.int .i64 0,.int .i64 0,.int .i64 0,.int .i64 0,.int .i64 0,.int .i64 0] tIno)):=((((Fr.refl Nob w).alloc _).drew).trans hf3).alloc _
   have hHP:w.heap.size < w3.heap.size:=by have:=hf3.size;simp at this;omega
   clear hf3
   go_wp2_with fail
   go_loopw [4,16] (fun s4 s16 wr=>∃ k:Nat,k <= 6 /\ s16 = .int .i64 k /\ Blk wr (w3.heap.size) tIno (inoL (decTo s k)) /\ Blk wr w.heap.size tIno [.int .i64 0,.int .i64 0,.int .i64 0,.int .i64 0,.int .i64 0,.int .i64 0,.int .i64 0,.int .i64 0,.int .i64 0] /\ Fr Nob w wr) (fun _ s16 _=>6 - (intOf s16).toNat)
   case atStart=>exact ⟨0,by omega,rfl,hbp,hb2',hF'⟩
   case round =>
    obtain ⟨k,hk,rfl,hbk,hb2k,hfk⟩:=hrel
    clear hbp hb2' hF'
    obtain rfl | rfl | rfl | rfl | rfl | rfl | rfl:k = 0 \/ k = 1 \/ k = 2 \/ k = 3 \/ k = 4 \/ k = 5 \/ k = 6:=by omega
    ·have cc:=hbk.cell (j:=3 + 0) rfl
     have ff:=hbk.free (3 + 0)
     clear hk
     go_wp2_with fail
     refine (HOF.out 4 (by omega) _).mono ?_
     rintro e w5 ⟨rfl,hf5⟩
     have hb5:=hbk.fr hf5 (fun h=>h)
     have cc5:=hb5.cell (j:=3 + 0) rfl
     have ff5:=hb5.free (3 + 0)
     have ht5:=twoAt_lt s 4
     have he5:IntKind.i64.wrap ((twoAt s 4:Nat):Int) = ((twoAt s 4:Nat):Int):=by rw [IntKind.wrap_i64];omega
     have HB5:=hid hb5
     have HB6:=hid (hb2k.fr hf5 (fun h=>h))
     have HF6:=hid (hfk.trans hf5)
     have hlt5:=hHP
     clear hb5 hbk hb2k hfk hf5 cc ff
     go_wp2_with fail
     go_roundw
     case rel=>exact ⟨1,by omega,rfl,HB5.out.set (3 + 0) _,HB6.out.set_ne (by omega) _ _,HF6.out.set (.inr (by omega)) _ _⟩
     case measure=>simp [intOf]
    ·have cc:=hbk.cell (j:=3 + 1) rfl
     have ff:=hbk.free (3 + 1)
     clear hk
     go_wp2_with fail
     refine (HOF.out 6 (by omega) _).mono ?_
     rintro e w5 ⟨rfl,hf5⟩
     have hb5:=hbk.fr hf5 (fun h=>h)
     have cc5:=hb5.cell (j:=3 + 1) rfl
     have ff5:=hb5.free (3 + 1)
     have ht5:=twoAt_lt s 6
     have he5:IntKind.i64.wrap ((twoAt s 6:Nat):Int) = ((twoAt s 6:Nat):Int):=by rw [IntKind.wrap_i64];omega
     have HB5:=hid hb5
     have HB6:=hid (hb2k.fr hf5 (fun h=>h))
     have HF6:=hid (hfk.trans hf5)
     have hlt5:=hHP
     clear hb5 hbk hb2k hfk hf5 cc ff
     go_wp2_with fail
     go_roundw
     case rel=>exact ⟨2,by omega,rfl,HB5.out.set (3 + 1) _,HB6.out.set_ne (by omega) _ _,HF6.out.set (.inr (by omega)) _ _⟩
     case measure=>simp [intOf]
    ·have cc:=hbk.cell (j:=3 + 2) rfl
     have ff:=hbk.free (3 + 2)
     clear hk
     go_wp2_with fail
     refine (HOF.out 8 (by omega) _).mono ?_
     rintro e w5 ⟨rfl,hf5⟩
     have hb5:=hbk.fr hf5 (fun h=>h)
     have cc5:=hb5.cell (j:=3 + 2) rfl
     have ff5:=hb5.free (3 + 2)
     have ht5:=twoAt_lt s 8
     have he5:IntKind.i64.wrap ((twoAt s 8:Nat):Int) = ((twoAt s 8:Nat):Int):=by rw [IntKind.wrap_i64];omega
     have HB5:=hid hb5
     have HB6:=hid (hb2k.fr hf5 (fun h=>h))
     have HF6:=hid (hfk.trans hf5)
     have hlt5:=hHP
     clear hb5 hbk hb2k hfk hf5 cc ff
     go_wp2_with fail
     go_roundw
     case rel=>exact ⟨3,by omega,rfl,HB5.out.set (3 + 2) _,HB6.out.set_ne (by omega) _ _,HF6.out.set (.inr (by omega)) _ _⟩
     case measure=>simp [intOf]
    ·have cc:=hbk.cell (j:=3 + 3) rfl
     have ff:=hbk.free (3 + 3)
     clear hk
     go_wp2_with fail
     refine (HOF.out 10 (by omega) _).mono ?_
     rintro e w5 ⟨rfl,hf5⟩
     have hb5:=hbk.fr hf5 (fun h=>h)
     have cc5:=hb5.cell (j:=3 + 3) rfl
     have ff5:=hb5.free (3 + 3)
     have ht5:=twoAt_lt s 10
     have he5:IntKind.i64.wrap ((twoAt s 10:Nat):Int) = ((twoAt s 10:Nat):Int):=by rw [IntKind.wrap_i64];omega
     have HB5:=hid hb5
     have HB6:=hid (hb2k.fr hf5 (fun h=>h))
     have HF6:=hid (hfk.trans hf5)
     have hlt5:=hHP
     clear hb5 hbk hb2k hfk hf5 cc ff
     go_wp2_with fail
     go_roundw
     case rel=>exact ⟨4,by omega,rfl,HB5.out.set (3 + 3) _,HB6.out.set_ne (by omega) _ _,HF6.out.set (.inr (by omega)) _ _⟩
     case measure=>simp [intOf]
    ·have cc:=hbk.cell (j:=3 + 4) rfl
     have ff:=hbk.free (3 + 4)
     clear hk
     go_wp2_with fail
     refine (HOF.out 12 (by omega) _).mono ?_
     rintro e w5 ⟨rfl,hf5⟩
     have hb5:=hbk.fr hf5 (fun h=>h)
     have cc5:=hb5.cell (j:=3 + 4) rfl
     have ff5:=hb5.free (3 + 4)
     have ht5:=twoAt_lt s 12
     have he5:IntKind.i64.wrap ((twoAt s 12:Nat):Int) = ((twoAt s 12:Nat):Int):=by rw [IntKind.wrap_i64];omega
     have HB5:=hid hb5
     have HB6:=hid (hb2k.fr hf5 (fun h=>h))
     have HF6:=hid (hfk.trans hf5)
     have hlt5:=hHP
     clear hb5 hbk hb2k hfk hf5 cc ff
     go_wp2_with fail
     go_roundw
     case rel=>exact ⟨5,by omega,rfl,HB5.out.set (3 + 4) _,HB6.out.set_ne (by omega) _ _,HF6.out.set (.inr (by omega)) _ _⟩
     case measure=>simp [intOf]
    ·have cc:=hbk.cell (j:=3 + 5) rfl
     have ff:=hbk.free (3 + 5)
     clear hk
     go_wp2_with fail
     refine (HOF.out 14 (by omega) _).mono ?_
     rintro e w5 ⟨rfl,hf5⟩
     have hb5:=hbk.fr hf5 (fun h=>h)
     have cc5:=hb5.cell (j:=3 + 5) rfl
     have ff5:=hb5.free (3 + 5)
     have ht5:=twoAt_lt s 14
     have he5:IntKind.i64.wrap ((twoAt s 14:Nat):Int) = ((twoAt s 14:Nat):Int):=by rw [IntKind.wrap_i64];omega
     have HB5:=hid hb5
     have HB6:=hid (hb2k.fr hf5 (fun h=>h))
     have HF6:=hid (hfk.trans hf5)
     have hlt5:=hHP
     clear hb5 hbk hb2k hfk hf5 cc ff
     go_wp2_with fail
     go_roundw
     case rel=>exact ⟨6,by omega,rfl,HB5.out.set (3 + 5) _,HB6.out.set_ne (by omega) _ _,HF6.out.set (.inr (by omega)) _ _⟩
     case measure=>simp [intOf]
    ·have k0:=hbk.cell (j:=0) rfl
     have k1:=hbk.cell (j:=1) rfl
     have k2:=hbk.cell (j:=2) rfl
     have k3:=hbk.cell (j:=3) rfl
     have k4:=hbk.cell (j:=4) rfl
     have k5:=hbk.cell (j:=5) rfl
     have k6:=hbk.cell (j:=6) rfl
     have k7:=hbk.cell (j:=7) rfl
     have k8:=hbk.cell (j:=8) rfl
     have z0:=hb2k.cell (j:=0) rfl
     have y0:=hb2k.free 0
     have z1:=hb2k.cell (j:=1) rfl
     have y1:=hb2k.free 1
     have z2:=hb2k.cell (j:=2) rfl
     have y2:=hb2k.free 2
     have z3:=hb2k.cell (j:=3) rfl
     have y3:=hb2k.free 3
     have z4:=hb2k.cell (j:=4) rfl
     have y4:=hb2k.free 4
     have z5:=hb2k.cell (j:=5) rfl
     have y5:=hb2k.free 5
     have z6:=hb2k.cell (j:=6) rfl
     have y6:=hb2k.free 6
     have z7:=hb2k.cell (j:=7) rfl
     have y7:=hb2k.free 7
     have z8:=hb2k.cell (j:=8) rfl
     have y8:=hb2k.free 8
     have hne:=hHP
     clear hk
     go_wp2_with fail
     have hb9:=(((((((((hb2k).set 0 (.int .i64 ((decTo s 6).kind:Nat))).set 1 (.int .i64 ((decTo s 6).links:Nat))).set 2 (.int .i64 ((decTo s 6).size:Nat))).set 3 (.int .i64 ((decTo s 6).a0:Nat))).set 4 (.int .i64 ((decTo s 6).a1:Nat))).set 5 (.int .i64 ((decTo s 6).a2:Nat))).set 6 (.int .i64 ((decTo s 6).a3:Nat))).set 7 (.int .i64 ((decTo s 6).a4:Nat))).set 8 (.int .i64 ((decTo s 6).a5:Nat))
     have hF9:=(((((((((hfk).set (b:=w.heap.size) (.inr (Nat.le_refl _)) 0 (.int .i64 ((decTo s 6).kind:Nat))).set (b:=w.heap.size) (.inr (Nat.le_refl _)) 1 (.int .i64 ((decTo s 6).links:Nat))).set (b:=w.heap.size) (.inr (Nat.le_refl _)) 2 (.int .i64 ((decTo s 6).size:Nat))).set (b:=w.heap.size) (.inr (Nat.le_refl _)) 3 (.int .i64 ((decTo s 6).a0:Nat))).set (b:=w.heap.size) (.inr (Nat.le_refl _)) 4 (.int .i64 ((decTo s 6).a1:Nat))).set (b:=w.heap.size) (.inr (Nat.le_refl _)) 5 (.int .i64 ((decTo s 6).a2:Nat))).set (b:=w.heap.size) (.inr (Nat.le_refl _)) 6 (.int .i64 ((decTo s 6).a3:Nat))).set (b:=w.heap.size) (.inr (Nat.le_refl _)) 7 (.int .i64 ((decTo s 6).a4:Nat))).set (b:=w.heap.size) (.inr (Nat.le_refl _)) 8 (.int .i64 ((decTo s 6).a5:Nat))
     have q0:=hb9.cell (j:=0) rfl
     have q1:=hb9.cell (j:=1) rfl
     have q2:=hb9.cell (j:=2) rfl
     have q3:=hb9.cell (j:=3) rfl
     have q4:=hb9.cell (j:=4) rfl
     have q5:=hb9.cell (j:=5) rfl
     have q6:=hb9.cell (j:=6) rfl
     have q7:=hb9.cell (j:=7) rfl
     have q8:=hb9.cell (j:=8) rfl
     have HF9:=hid hF9
     clear k0 k1 k2 k3 k4 k5 k6 k7 k8 z0 z1 z2 z3 z4 z5 z6 z7 z8 y0 y1 y2 y3 y4 y5 y6 y7 y8 hbk hb2k hfk hb9 hF9
     refine bodyPost_ret (by simp [results,Tryz.results154,go_sem,q0,q1,q2,q3,q4,q5,q6,q7,q8];try rfl) rfl ?_
     exact ⟨rfl,HF9.out⟩)
end Go.Proofs.YtngalllaiphkhaaGreatDoor
