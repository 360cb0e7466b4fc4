import Derived.Test.YtngalllaiphkhaaGreatDoorYTF
import Derived.Test.YtngalllaiphkhaaGreatDoorYTtY
import Derived.Test.YtngalllaiphkhaaGreatDoorYTG
namespace Go.Proofs.YtngalllaiphkhaaGreatDoor
open Go.RowKit
open Go.Lib (hid)
set_option maxRecDepth 100000
set_option maxHeartbeats 16000000
set_option linter.unusedVariables false
set_option linter.unusedSimpArgs false
section
variable {S0:Nat -> Prop} {w0 w w':World} {t v b d m c:Nat} {p:Int} {A A0:Nat -> Node} {T:Tr} {B R R':Asr}
theorem Done.live {r:Int × Tr} {e:Ending} (h:Done (-1) S0 w0 t v b d m T r B e w'):e = .returned (.int .i64 r.1) /\ TV (-1) S0 w0 t v b d m r.2 B w':=by
 rcases h with ⟨h1,p',h2,h3⟩ | ⟨h1,_⟩
 ·obtain rfl:=h2 rfl
  exact ⟨h1,h3⟩
 ·exact absurd rfl h1
theorem Made.live {mn:Nat} {r:Int × Tr} {e:Ending} (h:Made (-1) S0 w0 t v b d m T mn r B e w'):e = .returned (.tuple #[.int .i64 mn,.int .i64 r.1]) /\ TV (-1) S0 w0 t v b d m r.2 B w':=by
 rcases h with ⟨h1,p',h2,h3⟩ | ⟨h1,_⟩
 ·obtain rfl:=h2 rfl
  exact ⟨h1,h3⟩
 ·exact absurd rfl h1
theorem tshown_calls (w:World):Calls Tryz.prog 11 #[] w fun e w'=>e = .returned (.bool true) /\ Fr Nob w w':=by
 have LS:Lv Nob w Emp w:=(Live.start w).lv
 have HH:=hid (lfresh_calls loc_emp LS 100)
 have h68:freshN 100 - 32 = 68:=rfl
 rw [h68] at HH
 clear LS h68
 go_enter Tryz.func11,Tryz.ntmps11
 go_wp2_with fail
 refine HH.out.mono ?_
 rintro e w1 ⟨d,t,b,v,r,rfl,V1⟩
 have hB:Loc (Star (docX r 68 freshT) Emp):=loc_star (loc_docX _ _ _) loc_emp
 have HB:=hid hB
 have h:=(tMake_calls V1 hB fresh_inv 0 2 ⟨#[47,97]⟩).mono fun e w' h=>h.live
 rw [ex_make1.1,ex_make1.2] at h
 have HC:=hid h
 clear V1 hB HH h
 go_wp2_with fail
 refine HC.out.mono ?_
 rintro e w2 ⟨rfl,V1⟩
 have h:=(tMake_calls V1 HB.out ex_inv.1 1 1 ⟨#[98]⟩).mono fun e w' h=>h.live
 rw [ex_make2.1,ex_make2.2] at h
 have HC2:=hid h
 clear V1 HC h
 go_wp2_with fail
 refine HC2.out.mono ?_
 rintro e w3 ⟨rfl,V1⟩
 have h:=tFind_calls V1 HB.out ex_inv.2.1 0 ⟨#[97,47,46,46,47,97,47,46,47,98]⟩
 rw [ex_find] at h
 have HC3:=hid h
 clear V1 HC2 h
 go_wp2_with fail
 refine HC3.out.mono ?_
 rintro e w4 ⟨rfl,V1⟩
 have h:=(tLink_calls V1 HB.out ex_inv.2.1 0 ⟨#[97,47,98]⟩ ⟨#[99]⟩).mono fun e w' h=>h.live
 rw [ex_link] at h
 have HC4:=hid h
 clear V1 HC3 h
 go_wp2_with fail
 refine HC4.out.mono ?_
 rintro e w5 ⟨rfl,V1⟩
 have h:=tlist_calls V1 HB.out ex_inv.2.2 0
 rw [ex_list.1,ex_list.2] at h
 have HC5:=hid h
 clear V1 HC4 h
 go_wp2_with fail
 refine HC5.out.mono ?_
 rintro e w6 ⟨u,rfl,V1⟩
 have hl1:Loc (Star (rowA tStrT 1 u 2 (strsT [⟨#[97]⟩,⟨#[99]⟩])) (Star (docX r 68 freshT) Emp)):=loc_star (loc_row _ _ _ _ _) HB.out
 have HL1:=hid hl1
 have h:=(tUnlink_calls V1 hl1 ex_inv.2.2 0 ⟨#[97]⟩).mono fun e w' h=>h.live
 rw [ex_busy] at h
 have HC6:=hid h
 clear V1 HC5 h hl1
 go_wp2_with fail
 refine HC6.out.mono ?_
 rintro e w7 ⟨rfl,V1⟩
 have h:=(tUnlink_calls V1 HL1.out ex_inv.2.2 0 ⟨#[47,97,47,46,46]⟩).mono fun e w' h=>h.live
 rw [ex_dots] at h
 have HC7:=hid h
 clear V1 HC6 h
 go_wp2_with fail
 refine HC7.out.mono ?_
 rintro e w8 ⟨rfl,V1⟩
 have hr:w8.ownsRow 0 tStrT 1 u 2 (strsT [⟨#[97]⟩,⟨#[99]⟩]):=by
  obtain ⟨Z,_,h2,_⟩:=VT.out (VT.flip V1) (loc_star (loc_blk _ _ _) HB.out)
  obtain ⟨S,hS⟩:=h2.first
  exact hS.1
 obtain ⟨g,cap,rfl⟩:=row_succ hr
 have c0:w8.cell? ⟨g,0,none⟩ = some (.string ⟨#[97]⟩):=hr.cells (g:=g) rfl 0 _ rfl
 have c1:w8.cell? ⟨g,1,none⟩ = some (.string ⟨#[99]⟩):=hr.cells (g:=g) rfl 1 _ rfl
 have HFR:=hid V1.fr
 clear V1 HC7 hr HL1 HB
 go_wp2_with fail
 go_ret
 exact ⟨rfl,HFR.out⟩
end
section
variable {S0:Nat -> Prop} {w0 w:World} {r g c m:Nat} {sp:List Value} {T:Tr} {us:Nat -> Value} {B R:Asr}
end
section
variable {S0:Nat -> Prop} {w0 w:World} {r g c m:Nat} {sp:List Value} {T:Tr} {us:Nat -> Value} {B R:Asr}
end
end Go.Proofs.YtngalllaiphkhaaGreatDoor
