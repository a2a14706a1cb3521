/- headcountref20: parts that are great, the same, copied: walks (printed by a program of mine). -/
import Derived.Test.YtmbppgjhdcmckaaGreatDoorBj18
import Derived.Test.YtmbppgjhdcmckaaGreatDoorDeShelfZ
import Derived.Shelf.SlSortCmp.NoneTotal
set_option maxHeartbeats 102400000
set_option maxRecDepth 100000
namespace Go.Proofs.YtmbppgjhdcmckaaGreatDoor
open Go.RowKit
namespace Ma
open Dp Dy
theorem GreatPart_any(w:World)(p:Pv)(hR:PRows w 0 w.heap.size p)(k:Bool)(hk:qbi p=k) :
  Calls Tryz.prog 7 #[.agg #[.bool p.M.S.s,.slice p.M.S.A p.M.S.n p.M.S.c,.int .i64 p.M.S.e,.bool p.M.W.s,.slice p.M.W.A p.M.W.n p.M.W.c,.int .i64 p.M.W.e,.bool p.M.C.s,.slice p.M.C.A p.M.C.n p.M.C.c,.int .i64 p.M.C.e,.bool p.M.A.s,.slice p.M.A.A p.M.A.n p.M.A.c,.int .i64 p.M.A.e,.bool p.h,.int .i64 p.mn,.int .i64 p.mx,.slice p.A p.n p.c]] w fun e w'=>e=.returned (.bool k)/\Below w.heap.size w w':=by
 obtain⟨w1,hw,bP,j1,S1⟩:=alloc_p w p
 obtain⟨q,hq⟩:∃ q,qh6 p.M=q:=⟨_,rfl⟩
 have HQ:=Lib.hid hq
 have HK:=Lib.hid hk
 clear hq hk
 go_enter Tryz.func7,Tryz.ntmps7
 obtain⟨⟨q10,q11,q12,q13,q14,q15,q16,q17,q18,q19,q110,q111,q112,q113,q114,q115⟩,q1f⟩:=PBox.cell bP
 go_wp2_with fail
 refine (qtd w1 p.M (PRows.on hR j1).M q HQ.out).mono ?_
 rintro e' v2 ⟨rfl,j3⟩
 clear q10 q11 q12 q13 q14 q15 q16 q17 q18 q19 q110 q111 q112 q113 q114 q115 q1f
 try clear hw
 obtain⟨⟨q40,q41,q42,q43,q44,q45,q46,q47,q48,q49,q410,q411,q412,q413,q414,q415⟩,q4f⟩:=PBox.cell (qaa bP j3 S1)
 cases q
 rotate_left
 . have hk':k=true:=by rw [<-HK.out,qbi,HQ.out]; rfl
   subst hk'
   clear HK HQ
   go_wp2
   go_ret
   exact⟨rfl,(lz j1 j3)⟩
 skip
 by_cases hn:(70:Int) < (p.n:Int)
 . have hk':k=true:=by rw [<-HK.out,qbi,HQ.out,decide_eq_true (show 70 < p.n by omega)]; rfl
   subst hk'
   clear HK HQ
   go_wp2
   go_ret
   exact⟨rfl,(lz j1 j3)⟩
 skip
 have hk':k=false:=by rw [<-HK.out,qbi,HQ.out,decide_eq_false (show ¬ 70 < p.n by omega)]; rfl
 subst hk'
 clear HK HQ
 have hnb:decide ((70:Int) < (p.n:Int))=false:=decide_eq_false hn
 clear hn
 go_wp2
 go_ret
 exact⟨rfl,(lz j1 j3)⟩
theorem RSamePart_any(w:World)(a b:Pv)(hA:PRows w 0 w.heap.size a)(hB:PRows w 0 w.heap.size b)(k:Bool)(hk:qbf a b=k) :
  Calls Tryz.prog 16 #[.agg #[.bool a.M.S.s,.slice a.M.S.A a.M.S.n a.M.S.c,.int .i64 a.M.S.e,.bool a.M.W.s,.slice a.M.W.A a.M.W.n a.M.W.c,.int .i64 a.M.W.e,.bool a.M.C.s,.slice a.M.C.A a.M.C.n a.M.C.c,.int .i64 a.M.C.e,.bool a.M.A.s,.slice a.M.A.A a.M.A.n a.M.A.c,.int .i64 a.M.A.e,.bool a.h,.int .i64 a.mn,.int .i64 a.mx,.slice a.A a.n a.c],.agg #[.bool b.M.S.s,.slice b.M.S.A b.M.S.n b.M.S.c,.int .i64 b.M.S.e,.bool b.M.W.s,.slice b.M.W.A b.M.W.n b.M.W.c,.int .i64 b.M.W.e,.bool b.M.C.s,.slice b.M.C.A b.M.C.n b.M.C.c,.int .i64 b.M.C.e,.bool b.M.A.s,.slice b.M.A.A b.M.A.n b.M.A.c,.int .i64 b.M.A.e,.bool b.h,.int .i64 b.mn,.int .i64 b.mx,.slice b.A b.n b.c]] w fun e w'=>e=.returned (.bool k)/\Below w.heap.size w w':=by
 generalize hw:(w.alloc (.cells #[.bool a.M.S.s,.slice a.M.S.A a.M.S.n a.M.S.c,.int .i64 a.M.S.e,.bool a.M.W.s,.slice a.M.W.A a.M.W.n a.M.W.c,.int .i64 a.M.W.e,.bool a.M.C.s,.slice a.M.C.A a.M.C.n a.M.C.c,.int .i64 a.M.C.e,.bool a.M.A.s,.slice a.M.A.A a.M.A.n a.M.A.c,.int .i64 a.M.A.e,.bool a.h,.int .i64 a.mn,.int .i64 a.mx,.slice a.A a.n a.c] 30)).alloc (.cells #[.bool b.M.S.s,.slice b.M.S.A b.M.S.n b.M.S.c,.int .i64 b.M.S.e,.bool b.M.W.s,.slice b.M.W.A b.M.W.n b.M.W.c,.int .i64 b.M.W.e,.bool b.M.C.s,.slice b.M.C.A b.M.C.n b.M.C.c,.int .i64 b.M.C.e,.bool b.M.A.s,.slice b.M.A.A b.M.A.n b.M.A.c,.int .i64 b.M.A.e,.bool b.h,.int .i64 b.mn,.int .i64 b.mx,.slice b.A b.n b.c] 30)=w1
 obtain⟨bA,bB,j1,lo1,hi1⟩:=qdy w _ _ hw
 replace bA:PBox w1 w.heap.size a:=bA
 replace bB:PBox w1 (w.heap.size+1) b:=bB
 replace j1:Below w.heap.size w w1:=j1
 have S1:w.heap.size < w1.heap.size:=by omega
 have S2:w.heap.size+1 < w1.heap.size:=by omega
 obtain⟨q,hq⟩:∃ q,qfp a.M b.M=q:=⟨_,rfl⟩
 obtain⟨r,hr⟩:∃ q,Pa.Sm a.xs b.xs=q:=⟨_,rfl⟩
 have HQ:=Lib.hid hq
 have HR:=Lib.hid hr
 have HK:=Lib.hid hk
 clear hq hr hk
 go_enter Tryz.func16,Tryz.ntmps16
 obtain⟨⟨q50,q51,q52,q53,q54,q55,q56,q57,q58,q59,q510,q511,q512,q513,q514,q515⟩,q5f⟩:=PBox.cell bA
 obtain⟨⟨q60,q61,q62,q63,q64,q65,q66,q67,q68,q69,q610,q611,q612,q613,q614,q615⟩,q6f⟩:=PBox.cell bB
 go_wp2_with fail
 refine (qwk w1 a.M b.M (PRows.on hA j1).M (PRows.on hB j1).M q HQ.out).mono ?_
 rintro e' v7 ⟨rfl,j8⟩
 clear q50 q51 q52 q53 q54 q55 q56 q57 q58 q59 q510 q511 q512 q513 q514 q515 q5f q60 q61 q62 q63 q64 q65 q66 q67 q68 q69 q610 q611 q612 q613 q614 q615 q6f
 try clear hw
 obtain⟨⟨q90,q91,q92,q93,q94,q95,q96,q97,q98,q99,q910,q911,q912,q913,q914,q915⟩,q9f⟩:=PBox.cell (qaa bA j8 S1)
 obtain⟨⟨q100,q101,q102,q103,q104,q105,q106,q107,q108,q109,q1010,q1011,q1012,q1013,q1014,q1015⟩,q10f⟩:=PBox.cell (qaa bB j8 S2)
 cases q
 . have hk':k=false:=by rw [<-HK.out,qbf,HQ.out]; rfl
   subst hk'
   clear HK HQ HR
   go_wp2
   go_ret
   exact⟨rfl,(lz j1 j8)⟩
 skip
 by_cases e1:a.h=b.h
 rotate_left
 . have hk':k=false:=by
    rw [<-HK.out,qbf,HQ.out,qhe,decide_eq_false e1]
    simp
   subst hk'
   have eb:(a.h==b.h)=false:=by simpa using e1
   clear HK HQ HR
   go_wp2
   go_ret
   exact⟨rfl,(lz j1 j8)⟩
 skip
 rw [e1] at q912
 replace e1:=Lib.hid e1
 by_cases e2:a.mn=b.mn
 rotate_left
 . have hk':k=false:=by
    rw [<-HK.out,qbf,HQ.out,qhe,decide_eq_false e2]
    simp
   subst hk'
   have eb:(a.mn==b.mn)=false:=by simpa using e2
   clear HK HQ HR
   go_wp2
   go_ret
   exact⟨rfl,(lz j1 j8)⟩
 skip
 rw [e2] at q913
 replace e2:=Lib.hid e2
 by_cases e3:a.mx=b.mx
 rotate_left
 . have hk':k=false:=by
    rw [<-HK.out,qbf,HQ.out,qhe,decide_eq_false e3]
    simp
   subst hk'
   have eb:(a.mx==b.mx)=false:=by simpa using e3
   clear HK HQ HR
   go_wp2
   go_ret
   exact⟨rfl,(lz j1 j8)⟩
 skip
 rw [e3] at q914
 replace e3:=Lib.hid e3
 have hk':k=r:=by
  rw [<-HK.out,qbf,HQ.out,HR.out,qhe,e1.out,e2.out,e3.out]
  simp
 subst hk'
 have HRR:=Lib.hid HR.out
 clear HK HQ HR e1 e2 e3
 go_wp2_with fail
 refine (Pa.tagsSame_any v7 0 v7.heap.size 0 v7.heap.size _ _ _ _ _ _ _ _ (PRows.on hA (lz j1 j8)).L (PRows.on hB (lz j1 j8)).L k HRR.out).mono ?_
 rintro e' v_ ⟨rfl,m_,rfl⟩
 have jd:Below w.heap.size w (v7.drewN m_):=qbg (lz j1 j8) m_
 cases k
 . go_wp2
   go_ret
   exact⟨rfl,jd⟩
 skip
 go_wp2
 go_ret
 exact⟨rfl,jd⟩
theorem SamePart_any(w:World)(a b:Pv)(hA:PRows w 0 w.heap.size a)(hB:PRows w 0 w.heap.size b)(k:Bool)(hk:qbf a b=k) :
  Calls Tryz.prog 109 #[.agg #[.bool a.M.S.s,.slice a.M.S.A a.M.S.n a.M.S.c,.int .i64 a.M.S.e,.bool a.M.W.s,.slice a.M.W.A a.M.W.n a.M.W.c,.int .i64 a.M.W.e,.bool a.M.C.s,.slice a.M.C.A a.M.C.n a.M.C.c,.int .i64 a.M.C.e,.bool a.M.A.s,.slice a.M.A.A a.M.A.n a.M.A.c,.int .i64 a.M.A.e,.bool a.h,.int .i64 a.mn,.int .i64 a.mx,.slice a.A a.n a.c],.agg #[.bool b.M.S.s,.slice b.M.S.A b.M.S.n b.M.S.c,.int .i64 b.M.S.e,.bool b.M.W.s,.slice b.M.W.A b.M.W.n b.M.W.c,.int .i64 b.M.W.e,.bool b.M.C.s,.slice b.M.C.A b.M.C.n b.M.C.c,.int .i64 b.M.C.e,.bool b.M.A.s,.slice b.M.A.A b.M.A.n b.M.A.c,.int .i64 b.M.A.e,.bool b.h,.int .i64 b.mn,.int .i64 b.mx,.slice b.A b.n b.c]] w fun e w'=>e=.returned (.bool k)/\Below w.heap.size w w':=by
 generalize hw:(w.alloc (.cells #[.bool a.M.S.s,.slice a.M.S.A a.M.S.n a.M.S.c,.int .i64 a.M.S.e,.bool a.M.W.s,.slice a.M.W.A a.M.W.n a.M.W.c,.int .i64 a.M.W.e,.bool a.M.C.s,.slice a.M.C.A a.M.C.n a.M.C.c,.int .i64 a.M.C.e,.bool a.M.A.s,.slice a.M.A.A a.M.A.n a.M.A.c,.int .i64 a.M.A.e,.bool a.h,.int .i64 a.mn,.int .i64 a.mx,.slice a.A a.n a.c] 30)).alloc (.cells #[.bool b.M.S.s,.slice b.M.S.A b.M.S.n b.M.S.c,.int .i64 b.M.S.e,.bool b.M.W.s,.slice b.M.W.A b.M.W.n b.M.W.c,.int .i64 b.M.W.e,.bool b.M.C.s,.slice b.M.C.A b.M.C.n b.M.C.c,.int .i64 b.M.C.e,.bool b.M.A.s,.slice b.M.A.A b.M.A.n b.M.A.c,.int .i64 b.M.A.e,.bool b.h,.int .i64 b.mn,.int .i64 b.mx,.slice b.A b.n b.c] 30)=w1
 obtain⟨bA,bB,j1,lo1,hi1⟩:=qdy w _ _ hw
 replace bA:PBox w1 w.heap.size a:=bA
 replace bB:PBox w1 (w.heap.size+1) b:=bB
 replace j1:Below w.heap.size w w1:=j1
 have S1:w.heap.size < w1.heap.size:=by omega
 have S2:w.heap.size+1 < w1.heap.size:=by omega
 obtain⟨q,hq⟩:∃ q,qfp a.M b.M=q:=⟨_,rfl⟩
 obtain⟨r,hr⟩:∃ q,Pa.Sm a.xs b.xs=q:=⟨_,rfl⟩
 have HQ:=Lib.hid hq
 have HR:=Lib.hid hr
 have HK:=Lib.hid hk
 clear hq hr hk
 go_enter Tryz.func109,Tryz.ntmps109
 obtain⟨⟨q110,q111,q112,q113,q114,q115,q116,q117,q118,q119,q1110,q1111,q1112,q1113,q1114,q1115⟩,q11f⟩:=PBox.cell bA
 obtain⟨⟨q120,q121,q122,q123,q124,q125,q126,q127,q128,q129,q1210,q1211,q1212,q1213,q1214,q1215⟩,q12f⟩:=PBox.cell bB
 go_wp2_with fail
 refine (qtg w1 a.M b.M (PRows.on hA j1).M (PRows.on hB j1).M q HQ.out).mono ?_
 rintro e' v13 ⟨rfl,j14⟩
 clear q110 q111 q112 q113 q114 q115 q116 q117 q118 q119 q1110 q1111 q1112 q1113 q1114 q1115 q11f q120 q121 q122 q123 q124 q125 q126 q127 q128 q129 q1210 q1211 q1212 q1213 q1214 q1215 q12f
 try clear hw
 obtain⟨⟨q150,q151,q152,q153,q154,q155,q156,q157,q158,q159,q1510,q1511,q1512,q1513,q1514,q1515⟩,q15f⟩:=PBox.cell (qaa bA j14 S1)
 obtain⟨⟨q160,q161,q162,q163,q164,q165,q166,q167,q168,q169,q1610,q1611,q1612,q1613,q1614,q1615⟩,q16f⟩:=PBox.cell (qaa bB j14 S2)
 cases q
 . have hk':k=false:=by rw [<-HK.out,qbf,HQ.out]; rfl
   subst hk'
   clear HK HQ HR
   go_wp2
   go_ret
   exact⟨rfl,(lz j1 j14)⟩
 skip
 by_cases e1:a.h=b.h
 rotate_left
 . have hk':k=false:=by
    rw [<-HK.out,qbf,HQ.out,qhe,decide_eq_false e1]
    simp
   subst hk'
   have eb:(a.h==b.h)=false:=by simpa using e1
   clear HK HQ HR
   go_wp2
   go_ret
   exact⟨rfl,(lz j1 j14)⟩
 skip
 rw [e1] at q1512
 replace e1:=Lib.hid e1
 by_cases e2:a.mn=b.mn
 rotate_left
 . have hk':k=false:=by
    rw [<-HK.out,qbf,HQ.out,qhe,decide_eq_false e2]
    simp
   subst hk'
   have eb:(a.mn==b.mn)=false:=by simpa using e2
   clear HK HQ HR
   go_wp2
   go_ret
   exact⟨rfl,(lz j1 j14)⟩
 skip
 rw [e2] at q1513
 replace e2:=Lib.hid e2
 by_cases e3:a.mx=b.mx
 rotate_left
 . have hk':k=false:=by
    rw [<-HK.out,qbf,HQ.out,qhe,decide_eq_false e3]
    simp
   subst hk'
   have eb:(a.mx==b.mx)=false:=by simpa using e3
   clear HK HQ HR
   go_wp2
   go_ret
   exact⟨rfl,(lz j1 j14)⟩
 skip
 rw [e3] at q1514
 replace e3:=Lib.hid e3
 have hk':k=r:=by
  rw [<-HK.out,qbf,HQ.out,HR.out,qhe,e1.out,e2.out,e3.out]
  simp
 subst hk'
 have HRR:=Lib.hid HR.out
 clear HK HQ HR e1 e2 e3
 go_wp2_with fail
 refine (Pa.Equal_any v13 0 v13.heap.size 0 v13.heap.size _ _ _ _ _ _ _ _ (PRows.on hA (lz j1 j14)).L (PRows.on hB (lz j1 j14)).L k HRR.out).mono ?_
 rintro e' v_ ⟨rfl,m_,rfl⟩
 have jd:Below w.heap.size w (v13.drewN m_):=qbg (lz j1 j14) m_
 cases k
 . go_wp2
   go_ret
   exact⟨rfl,jd⟩
 skip
 go_wp2
 go_ret
 exact⟨rfl,jd⟩
end Ma
end Go.Proofs.YtmbppgjhdcmckaaGreatDoor
namespace Go.Proofs.YtmbppgjhdcmckaaGreatDoor
open Go.RowKit
namespace No
open Ma (Pv PRows qbf)
open Dy
def qft(v:Nv):Bool:=decide (v.kf<=v.ke)
def qix(v:Nv):Bool:=if v.wo=false then decide (v.wn=0/\v.wt=0) else qft v && decide ((0<=v.wn/\v.wn<=1048575)/\(0<=v.wt/\v.wt < 8)/\v.wt≠v.id)
theorem qak.drewN{t:TypeId}{w:World}{g:Nat}{v:Nv}(h:qak t w g v)(m:Nat):qak t (w.drewN m) g v:=h
theorem qdj(w:World)(a b:Nat):(w.drewN a).drewN b=w.drewN (a+b):=qb5 ..
theorem qcz(w:World)(g:Nat)(v:Nv)(hB:qak 107 w g v)(k:Bool)(hk:qft v=k) :
  Calls Tryz.prog 118 #[.pointer (some ⟨g,0,none⟩)] w fun e w'=>e=.returned (.bool k)/\∃ m,w'=w.drewN m:=by
 have c6:w.cell? ⟨g,6,none⟩=some (.int .i64 v.ke):=qak.at_ hB 6 _ rfl
 have c7:w.cell? ⟨g,7,none⟩=some (.int .i64 v.kf):=qak.at_ hB 7 _ rfl
 have HK:=Lib.hid hk
 clear hk hB
 go_enter Tryz.func118,Tryz.ntmps118
 go_wp2
 go_quiet (fail)
 go_wp2
 go_ret
 exact⟨by rw [<-HK.out]; rfl,_,rfl⟩
theorem qhg(w:World)(l t s e f:Int)(k:Bool)(hk:decide (f<=e)=k) :
  Calls Tryz.prog 100 #[.agg #[.int .i64 l,.int .i64 t,.int .i64 s,.int .i64 e,.int .i64 f]] w fun e' w'=>e'=.returned (.bool k)/\Below w.heap.size w w':=by
 obtain⟨w1,hw,bC,j1⟩:=Ma.alloc_cl w l t s e f
 have c3:w1.cell? ⟨w.heap.size,3,none⟩=some (.int .i64 e):=cell_of_row w1 w.heap.size 3 _ _ _ bC
 have c4:w1.cell? ⟨w.heap.size,4,none⟩=some (.int .i64 f):=cell_of_row w1 w.heap.size 4 _ _ _ bC
 have HK:=Lib.hid hk
 clear hk bC
 go_enter Tryz.func100,Tryz.ntmps100
 by_cases q:f<=e
 . obtain rfl:k=true:=by rw [<-HK.out]; exact decide_eq_true q
   go_wp2
   go_ret
   exact⟨rfl,j1⟩
 obtain rfl:k=false:=by rw [<-HK.out]; exact decide_eq_false q
 go_wp2
 go_ret
 exact⟨rfl,j1⟩
theorem eqlW(w:World)(b d:Int):(binOp .eql 55 (.agg #[.bool false,.int .i64 b,.int .i64 d]) (.agg #[.bool false,.int .i64 0,.int .i64 0])).run Tryz.prog w=.ok (.bool (b==0 && d==0)) w:=by
 have u3:=Tryz.underlying3
 have u4:=Tryz.underlying4
 have hS:Tryz.prog.underlying 55=some (.struct (Tryz.prog.fieldsOf 55)):=by kernel_rfl
 have hp:Tryz.prog.stoodInHeld 55=false:=by kernel_rfl
 rw [run_eql_struct,show (10000:Nat)=9999+1 from rfl,run_equalIn_agg w 9999 55 _ _ hS hp]
 simp only [Program.fieldsOf,Tryz.underlying55]
 go_simp
 by_cases h1:b=0<;>by_cases h2:d=0<;>simp [h1,h2]
theorem qmj(w:World)(g:Nat)(v:Nv)(hB:qak 107 w g v)(k:Bool)(hk:qix v=k) :
  Calls Tryz.prog 119 #[.pointer (some ⟨g,0,none⟩)] w fun e w'=>e=.returned (.bool k)/\∃ m,w'=w.drewN m:=by
 have c0:w.cell? ⟨g,0,none⟩=some (.int .i64 v.id):=qak.at_ hB 0 _ rfl
 have c24:w.cell? ⟨g,24,none⟩=some (.bool v.wo):=qak.at_ hB 24 _ rfl
 have c25:w.cell? ⟨g,25,none⟩=some (.int .i64 v.wn):=qak.at_ hB 25 _ rfl
 have c26:w.cell? ⟨g,26,none⟩=some (.int .i64 v.wt):=qak.at_ hB 26 _ rfl
 have HK:=Lib.hid hk
 have HB:=Lib.hid hB
 obtain⟨o,ho⟩:∃ o,v.wo=o:=⟨_,rfl⟩
 rw [ho] at c24
 have HO:=Lib.hid ho
 clear hk ho hB
 cases o
 . have heq:=eqlW
   obtain⟨r,hr⟩:∃ r,(v.wn==0 && v.wt==0)=r:=⟨_,rfl⟩
   have hk:k=r:=by
    rw [<-HK.out,<-hr]
    unfold qix
    rw [if_pos HO.out]
    by_cases h1:v.wn=0<;>by_cases h2:v.wt=0<;>simp [h1,h2]
   subst hk
   go_enter Tryz.func119,Tryz.ntmps119
   go_wp2
   go_ret
   exact⟨rfl,0,rfl⟩
 obtain⟨t,ht⟩:∃ t,qft v=t:=⟨_,rfl⟩
 have HT:=Lib.hid ht
 clear ht
 have hk:k=(t && decide ((0<=v.wn/\v.wn<=1048575)/\(0<=v.wt/\v.wt < 8)/\v.wt≠v.id)):=by
  rw [<-HK.out,<-HT.out]
  unfold qix
  rw [if_neg (by rw [HO.out]; simp)]
 have HK2:=Lib.hid hk
 clear hk HK
 cases t
 . obtain rfl:k=false:=by rw [HK2.out]; rfl
   go_enter Tryz.func119,Tryz.ntmps119
   go_wp2
   go_quiet (first | (go_at_call 118; refine (qcz _ g v (HB.out.drewN _) false HT.out).mono ?_; rintro e_ w_ ⟨rfl,m_,rfl⟩; exact⟨rfl,_,qdj ..⟩))
   go_wp2
   go_ret
   exact⟨rfl,_,rfl⟩
 skip
 by_cases q5:0<=v.wn
 case neg =>
  have hd:=decide_eq_false q5
  obtain rfl:k=false:=by rw [HK2.out]; rw [Bool.true_and]; exact decide_eq_false (by omega)
  go_enter Tryz.func119,Tryz.ntmps119
  go_wp2
  go_quiet (first | (go_at_call 118; refine (qcz _ g v (HB.out.drewN _) true HT.out).mono ?_; rintro e_ w_ ⟨rfl,m_,rfl⟩; exact⟨rfl,_,qdj ..⟩))
  go_wp2
  go_ret
  exact⟨rfl,_,rfl⟩
 by_cases q7:v.wn<=1048575
 case neg =>
  have hd:=decide_eq_false q7
  obtain rfl:k=false:=by rw [HK2.out]; rw [Bool.true_and]; exact decide_eq_false (by omega)
  go_enter Tryz.func119,Tryz.ntmps119
  go_wp2
  go_quiet (first | (go_at_call 118; refine (qcz _ g v (HB.out.drewN _) true HT.out).mono ?_; rintro e_ w_ ⟨rfl,m_,rfl⟩; exact⟨rfl,_,qdj ..⟩))
  go_wp2
  go_ret
  exact⟨rfl,_,rfl⟩
 by_cases q9:0<=v.wt
 case neg =>
  have hd:=decide_eq_false q9
  obtain rfl:k=false:=by rw [HK2.out]; rw [Bool.true_and]; exact decide_eq_false (by omega)
  go_enter Tryz.func119,Tryz.ntmps119
  go_wp2
  go_quiet (first | (go_at_call 118; refine (qcz _ g v (HB.out.drewN _) true HT.out).mono ?_; rintro e_ w_ ⟨rfl,m_,rfl⟩; exact⟨rfl,_,qdj ..⟩))
  go_wp2
  go_ret
  exact⟨rfl,_,rfl⟩
 by_cases q11:v.wt < 8
 case neg =>
  have hd:=decide_eq_false q11
  obtain rfl:k=false:=by rw [HK2.out]; rw [Bool.true_and]; exact decide_eq_false (by omega)
  go_enter Tryz.func119,Tryz.ntmps119
  go_wp2
  go_quiet (first | (go_at_call 118; refine (qcz _ g v (HB.out.drewN _) true HT.out).mono ?_; rintro e_ w_ ⟨rfl,m_,rfl⟩; exact⟨rfl,_,qdj ..⟩))
  go_wp2
  go_ret
  exact⟨rfl,_,rfl⟩
 obtain⟨bq,hbq⟩:∃ b,(v.wt != v.id)=b:=⟨_,rfl⟩
 cases bq
 case false =>
  have heq:=Lib.hid (show v.wt=v.id by simpa using hbq)
  obtain rfl:k=false:=by have:=heq.out; rw [HK2.out,Bool.true_and]; exact decide_eq_false (by omega)
  go_enter Tryz.func119,Tryz.ntmps119
  go_wp2
  go_quiet (first | (go_at_call 118; refine (qcz _ g v (HB.out.drewN _) true HT.out).mono ?_; rintro e_ w_ ⟨rfl,m_,rfl⟩; exact⟨rfl,_,qdj ..⟩))
  go_wp2
  go_ret
  exact⟨rfl,_,rfl⟩
 have hne:=Lib.hid (show v.wt≠v.id by simpa using hbq)
 obtain rfl:k=true:=by have:=hne.out; rw [HK2.out,Bool.true_and]; exact decide_eq_true (by omega)
 go_enter Tryz.func119,Tryz.ntmps119
 go_wp2
 go_quiet (first | (go_at_call 118; refine (qcz _ g v (HB.out.drewN _) true HT.out).mono ?_; rintro e_ w_ ⟨rfl,m_,rfl⟩; exact⟨rfl,_,qdj ..⟩))
 go_wp2
 go_ret
 exact⟨rfl,_,rfl⟩
theorem qh2(w:World)(v:Nv)(k:Bool)(hk:qix v=k) :
  Calls Tryz.prog 102 #[.agg #[.int .i64 v.id,.int .i64 v.val,.bool v.up,.int .i64 v.kl,.int .i64 v.kt,.int .i64 v.ks,.int .i64 v.ke,.int .i64 v.kf,.bool v.P.M.S.s,.slice v.P.M.S.A v.P.M.S.n v.P.M.S.c,.int .i64 v.P.M.S.e,.bool v.P.M.W.s,.slice v.P.M.W.A v.P.M.W.n v.P.M.W.c,.int .i64 v.P.M.W.e,.bool v.P.M.C.s,.slice v.P.M.C.A v.P.M.C.n v.P.M.C.c,.int .i64 v.P.M.C.e,.bool v.P.M.A.s,.slice v.P.M.A.A v.P.M.A.n v.P.M.A.c,.int .i64 v.P.M.A.e,.bool v.P.h,.int .i64 v.P.mn,.int .i64 v.P.mx,.slice v.P.A v.P.n v.P.c,.bool v.wo,.int .i64 v.wn,.int .i64 v.wt,.slice v.hA v.hn v.hc,.int .i64 v.own,.int .i64 v.cap,.slice v.dA v.dn v.dc,.slice v.fA v.fn v.fc,.slice v.tA v.tn v.tc]] w fun e w'=>e=.returned (.bool k)/\Below w.heap.size w w':=by
 obtain⟨w1,hw,hB,j1,S1⟩:=qb7 63 w v
 have c0:w1.cell? ⟨w.heap.size,0,none⟩=some (.int .i64 v.id):=qak.at_ hB 0 _ rfl
 have c24:w1.cell? ⟨w.heap.size,24,none⟩=some (.bool v.wo):=qak.at_ hB 24 _ rfl
 have c25:w1.cell? ⟨w.heap.size,25,none⟩=some (.int .i64 v.wn):=qak.at_ hB 25 _ rfl
 have c26:w1.cell? ⟨w.heap.size,26,none⟩=some (.int .i64 v.wt):=qak.at_ hB 26 _ rfl
 have rC:=qak.clock hB
 have HK:=Lib.hid hk
 have HW:=Lib.hid hw
 obtain⟨o,ho⟩:∃ o,v.wo=o:=⟨_,rfl⟩
 have HO:=Lib.hid ho
 clear hk hB
 cases o
 . rw [ho] at c24
   clear ho
   obtain⟨b1,hb1⟩:∃ b,(v.wn==0)=b:=⟨_,rfl⟩
   obtain⟨b2,hb2⟩:∃ b,(v.wt==0)=b:=⟨_,rfl⟩
   have hk:k=(b1 && b2):=by
    rw [<-HK.out,<-hb1,<-hb2]
    unfold qix
    rw [if_pos HO.out]
    by_cases h1:v.wn=0<;>by_cases h2:v.wt=0<;>simp [h1,h2]
   subst hk
   go_enter Tryz.func102,Tryz.ntmps102
   go_upto_region 1 with fail
   try clear hw
   cases b1
   . go_wp2
     go_ret
     exact⟨rfl,j1⟩
   go_wp2
   go_ret
   exact⟨by first | rfl | rw [hb2] | simp [hb2],j1⟩
 obtain⟨t,ht⟩:∃ t,decide (v.kf<=v.ke)=t:=⟨_,rfl⟩
 have HT:=Lib.hid ht
 have hk:k=(t && decide ((0<=v.wn/\v.wn<=1048575)/\(0<=v.wt/\v.wt < 8)/\v.wt≠v.id)):=by
  rw [<-HK.out,<-HT.out]
  unfold qix qft
  rw [if_neg (by rw [HO.out]; simp)]
 have HK2:=Lib.hid hk
 rw [ho] at c24
 clear hk HK ht ho
 go_enter Tryz.func102,Tryz.ntmps102
 go_upto_region 1 with fail
 try clear hw
 by_cases q19:0<=v.wn
 case neg =>
  obtain rfl:k=false:=by rw [HK2.out]; first|exact decide_eq_false (by omega) | (rw [decide_eq_false (by omega)]; exact Bool.and_false _)
  go_wp2
  go_ret
  exact⟨rfl,j1⟩
 by_cases q21:v.wn<=1048575
 case neg =>
  obtain rfl:k=false:=by rw [HK2.out]; first|exact decide_eq_false (by omega) | (rw [decide_eq_false (by omega)]; exact Bool.and_false _)
  go_wp2
  go_ret
  exact⟨rfl,j1⟩
 by_cases q23:0<=v.wt
 case neg =>
  obtain rfl:k=false:=by rw [HK2.out]; first|exact decide_eq_false (by omega) | (rw [decide_eq_false (by omega)]; exact Bool.and_false _)
  go_wp2
  go_ret
  exact⟨rfl,j1⟩
 by_cases q25:v.wt < 8
 case neg =>
  obtain rfl:k=false:=by rw [HK2.out]; first|exact decide_eq_false (by omega) | (rw [decide_eq_false (by omega)]; exact Bool.and_false _)
  go_wp2
  go_ret
  exact⟨rfl,j1⟩
 obtain⟨bq,hbq⟩:∃ b,(v.wt != v.id)=b:=⟨_,rfl⟩
 cases bq
 case false =>
  have heq:=Lib.hid (show v.wt=v.id by simpa using hbq)
  obtain rfl:k=false:=by have:=heq.out; rw [HK2.out,decide_eq_false (by omega)]; exact Bool.and_false _
  go_wp2
  go_ret
  exact⟨rfl,j1⟩
 have hne:=Lib.hid (show v.wt≠v.id by simpa using hbq)
 obtain rfl:k=t:=by have:=hne.out; rw [HK2.out,decide_eq_true (by omega),Bool.and_true]
 go_wp2_with (first
  | (refine Ma.wpList_load_midG (by rfl) 53 (.tmp 48) rfl w.heap.size 3 rfl [.int .i64 v.kl,.int .i64 v.kt,.int .i64 v.ks,.int .i64 v.ke,.int .i64 v.kf] _ rC Tryz.underlying53 rfl (by kernel_rfl) ?_))
 refine (qhg w1 v.kl v.kt v.ks v.ke v.kf k HT.out).mono ?_
 rintro e' w2 ⟨rfl,j2⟩
 go_wp2
 go_ret
 exact⟨rfl,lz j1 j2⟩
theorem qle(w:World)(p:Pv)(hR:PRows w 0 w.heap.size p)(k:Bool)(hk:qbf p Ma.ZPv=k) :
  Calls Tryz.prog 101 #[.agg #[.bool p.M.S.s,.slice p.M.S.A p.M.S.n p.M.S.c,.int .i64 p.M.S.e,.bool p.M.W.s,.slice p.M.W.A p.M.W.n p.M.W.c,.int .i64 p.M.W.e,.bool p.M.C.s,.slice p.M.C.A p.M.C.n p.M.C.c,.int .i64 p.M.C.e,.bool p.M.A.s,.slice p.M.A.A p.M.A.n p.M.A.c,.int .i64 p.M.A.e,.bool p.h,.int .i64 p.mn,.int .i64 p.mx,.slice p.A p.n p.c]] w fun e w'=>e=.returned (.bool k)/\Below w.heap.size w w':=by
 obtain⟨w1,hw,bP,j1,S1⟩:=Ma.alloc_p w p
 have HK:=Lib.hid hk
 clear hk
 have rP:=Ma.PBox.range bP
 go_enter Tryz.func101,Tryz.ntmps101
 go_wp2_with (first
  | (refine wpList_load_mid rfl 30 (.tmp 1) rfl w.heap.size 0 rfl [.bool p.M.S.s,.slice p.M.S.A p.M.S.n p.M.S.c,.int .i64 p.M.S.e,.bool p.M.W.s,.slice p.M.W.A p.M.W.n p.M.W.c,.int .i64 p.M.W.e,.bool p.M.C.s,.slice p.M.C.A p.M.C.n p.M.C.c,.int .i64 p.M.C.e,.bool p.M.A.s,.slice p.M.A.A p.M.A.n p.M.A.c,.int .i64 p.M.A.e,.bool p.h,.int .i64 p.mn,.int .i64 p.mx,.slice p.A p.n p.c] _ rP Tryz.underlying30 rfl (by kernel_rfl) ?_))
 refine (Ma.RSamePart_any w1 p Ma.ZPv (PRows.on hR j1) ⟨⟨qae.nil_ ..,qae.nil_ ..,qae.nil_ ..,qae.nil_ ..⟩,qae.nil_ ..⟩ k HK.out).mono ?_
 rintro e' w2 ⟨rfl,j2⟩
 go_wp2
 go_ret
 exact⟨rfl,lz j1 j2⟩
end No
end Go.Proofs.YtmbppgjhdcmckaaGreatDoor
namespace Go.Proofs.YtmbppgjhdcmckaaGreatDoor
open Go.RowKit Go.Sort Go.Shelf
namespace De
theorem qoo(W:World)(x y z u:Int)(r:Int)(hr:cf (x,y) (z,u)=r) :
  Calls Tryz.prog 216 #[.agg #[.int .i64 x,.int .i64 y],.agg #[.int .i64 z,.int .i64 u]] W fun e w'=>e=.returned (.int .i64 r)/\∃ q os,w'=grow (W.drewN q) os:=by
 have HR:=Lib.hid hr
 clear hr
 go_enter Tryz.func216,Tryz.ntmps216
 go_wp2_with fail
 refine (qyf _ x y z u r HR.out).mono ?_
 rintro e w' ⟨rfl,q,os,rfl⟩
 go_wp2
 go_ret
 exact⟨rfl,q,#[_,_]++os,by rw [alloc_eq_grow,alloc_eq_grow,grow_grow]; show grow (grow (W.drewN q) _) os=_; rw [grow_grow]; rfl⟩
theorem q0n(blk off size:Nat)(w:World):CmpLays Tryz.prog 216 #[] qx9 2 cf blk off size w :=
 fun _ _ _ _ x y=>qoo _ x.1 x.2 y.1 y.2 _ rfl
theorem qlr(x y:Int×Int):ltOf cf x y=ltB x y:=cf_lt x y
theorem swo:SWO (ltOf cf) where
 irrefl x:=by rw [qlr]; exact q1q x
 trans x y z h1 h2:=by rw [qlr] at *; exact lt_trans h1 h2
 ntrans x y z h1 h2:=by rw [qlr] at *; exact qnb h1 h2
theorem agg_D:∀ w,(isAgg 195).run Tryz.prog w=.ok true w:=Tryz.isAgg195
theorem q1h:∀ w,(Go.sizeOf 195).run Tryz.prog w=.ok 2 w:=Tryz.sizeOf195
theorem qqs{w:World}{lo hi b off n:Nat}{xs:List (Int×Int)}(h:Descs w lo hi (some ⟨b,off,none⟩) n xs):HoldsK qx9 2 w b off xs.toArray:=by
 intro t ht
 rw [size_flatK] at ht
 have hl:=h.len
 simp only [List.size_toArray] at ht
 rw [get_flatK _ _ _ _ (by simpa using ht)]
 obtain⟨b',off',e,_,_,hc⟩:=h.row (by omega)
 injection e with e
 injection e with e1 e2
 subst e1
 subst e2
 obtain⟨⟨a1,a2⟩,a3,a4⟩:=hc (t/2) (by omega)
 have hx:xs.toArray[t/2]! = xs[t/2]?.getD (0,0):=by
  rw [getElem!_pos xs.toArray (t/2) (by simp; omega),List.getElem?_eq_getElem (by omega)]
  rfl
 rw [hx]
 rcases Nat.mod_two_eq_zero_or_one t with he|he
 . rw [he]
   have ej:off+t=off+t/2*2:=by omega
   rw [ej]
   exact⟨a1,a2⟩
 rw [he]
 have ej:off+t=off+t/2*2+1:=by omega
 rw [ej]
 exact⟨a3,a4⟩
theorem qxp{w:World}{b off:Nat}{d:Array (Int×Int)}(h:HoldsK qx9 2 w b off d)(hw:∀ x∈d.toList,Rng x)(hn:d.size<=9223372036854775807):Descs w b (b+1) (some ⟨b,off,none⟩) d.size d.toList:=by
 refine⟨by simp,hw,hn,fun _=>⟨b,off,rfl,Nat.le_refl _,by omega,fun j hj=>?_⟩⟩
 have hx:d.toList[j]?.getD (0,0)=d[j]! := by
  rw [getElem!_pos d j hj,Array.getElem?_toList,Array.getElem?_eq_getElem hj]
  rfl
 rw [hx]
 have c0:=h.cell (i:=j) (c:=0) hj (by omega)
 have c1:=h.cell (i:=j) (c:=1) hj (by omega)
 exact⟨c0,c1⟩
theorem qs3{B:Nat}{w:World}{b off m:Nat}{d:Array (Int×Int)}{os:Array Obj}(hB:B<=b)(hb:b < w.heap.size):Below B w (sortWorldK qx9 2 w b off m d os):=by
 refine⟨rfl,rfl,rfl,size_sortWorldK_c qx9 2 w b off m d os,fun k hk=>?_⟩
 unfold sortWorldK
 rw [heap_grow_old _ _ (by rw [size_putRowK]; show k < w.heap.size; omega)]
 show (w.heap.modify b _)[k]? = _
 rw [Array.getElem?_modify,if_neg (by omega)]
def q02(w:World)(n:Nat)(xs:List (Int×Int))(e:Ending)(w':World):Prop :=
 ∃ A' c' rb,e=.returned (.tuple #[.slice A' n c',.int .i64 0])/\n<=c'/\Below w.heap.size w w'/\(0 < n->w.heap.size<=rb)/\rb < w'.heap.size/\Descs w' rb (rb+1) A' n (srt xs)
theorem qq8(w:World)(lo hi:Nat)(A:Option Addr)(n c:Nat)(xs:List (Int×Int))(hX:Descs w lo hi A n xs)(hhi:hi<=w.heap.size)(h0:0 < w.heap.size)(hr:qct xs=0) :
  Calls Tryz.prog 204 #[.slice A n c] w (q02 w n xs):=by
 have HL:=Lib.hid hX.len
 have hbig:=hX.big
 have HR:=Lib.hid hr
 have hn64:n<=64:=by rw [<-HL.out]; exact (qnm hr).1
 clear hr
 go_enter Tryz.func204,Tryz.ntmps204
 go_wp2_with fail
 refine (Check_any _ lo hi A n c xs hX hhi h0 0 HR.out).mono ?_
 rintro e w1 ⟨rfl,hb1⟩
 go_wp2_with fail
 refine (qj6 _ lo hi A n c xs (hX.below hb1 hhi) (by have:=hb1.size; omega) (by omega)).mono ?_
 rintro e w2 ⟨A2,c2,rfl,hc2,hb2,hown⟩
 have hsz1:=hb1.size
 have hsz2:=hb2.size
 have hb12:=hb1.trans (hb2.mono hsz1)
 by_cases hn:n=0
 . subst hn
   have hx0:=hX.zero rfl
   subst hx0
   have hs:=AnyF.slices_SortFunc_none (P:=Tryz.prog) (ρ:=Tryz.sortD_ren) Tryz.sortD A2 c2 (.func (.func 216) #[] #[]) w2
   change Calls Tryz.prog 215 _ _ _ at hs
   have HS:=Lib.hid hs
   clear hs hown
   go_wp2_with fail
   refine HS.out.mono ?_
   rintro e w3 ⟨rfl,rfl⟩
   go_wp2
   go_ret2
   exact⟨A2,c2,0,rfl,hc2,hb12,fun h=>absurd h (by omega),by omega,Descs.nil_ ..⟩
 obtain⟨g,rfl,hg1,hg2,hD0⟩:∃ g,A2=some ⟨g,0,none⟩/\w1.heap.size<=g/\g < w2.heap.size/\Descs w2 w1.heap.size w2.heap.size A2 n xs:=by
  have hD:=Descs.of_own hown hX.wf hbig
  obtain⟨b,off,e,h1,h2,_⟩:=hD.row (by omega)
  rcases hown.2 with ⟨_,h3⟩|⟨g,cap,cur,hv,hg,hh,hnc,hcm,hcs,ht⟩
  . omega
  injection hv with ha
  subst ha
  injection e with e
  injection e with e1 e2
  subst e1
  exact⟨g,rfl,h1,h2,hD⟩
 have hs:=AnyQ.slices_SortFunc (P:=Tryz.prog) (ρ:=Tryz.sortD_ren) Tryz.sortD 2 agg_D q1h qx9 (fun _=>rfl) (fun x v hv=>by simp [qx9] at hv; rcases hv with rfl | rfl<;>rfl) cf swo 216 #[] g 0 c2 xs.toArray w2
  (enters_of Tryz.func216 (by kernel_rfl) rfl) (q0n g 0 _ w2) (qqs hD0) hg2 (by have:=HL.out; simp; omega)
 change Calls Tryz.prog 215 _ _ _ at hs
 have hsz:xs.toArray.size=n:=by have:=HL.out; simpa using this
 rw [hsz] at hs
 have HS:=Lib.hid hs
 have HH:=Lib.hid (qqs hD0)
 have hwf:=Lib.hid hX.wf
 have HSZ:=Lib.hid hsz
 clear hs hown hD0 hsz hX
 go_wp2_with fail
 refine HS.out.mono ?_
 rintro e w3 ⟨rfl,d',m,os,hp,hsrt,hw3⟩
 have hb3:Below w1.heap.size w2 w3:=by rw [hw3]; exact qs3 hg1 hg2
 have hd:d'.size=n:=by have:=hp.1; rw [HSZ.out] at this; exact this
 have hperm:d'.toList.Perm xs:=by
  have:=hp.2.2
  have e1:d'.extract 0 n=d':=by rw [<-hd]; simp
  have e2:xs.toArray.extract 0 n=xs.toArray:=by rw [<-HSZ.out]; simp
  rw [e1,e2] at this
  exact this
 have hS:Srt d'.toList:=by
  unfold Srt
  rw [List.pairwise_iff_getElem]
  intro i j hi hj hij
  have:=hsrt i j (Nat.zero_le _) hij (by simpa [hd] using hj)
  rw [qlr] at this
  simpa [getElem!_pos d' j (by simpa using hj),getElem!_pos d' i (by simpa using hi)] using this
 have hsr:=q1g hperm hS
 have hH3:HoldsK qx9 2 w3 g 0 d':=by
  rw [hw3]
  exact holdsK_sortWorldK_c qx9 2 w2 g 0 xs.toArray d' m os HH.out hg2 (by rw [HSZ.out]; exact hd)
 have hD3:=qxp hH3 (fun x hx=>hwf.out x (hperm.mem_iff.1 hx)) (by omega)
 rw [hd,hsr] at hD3
 have HD3:=Lib.hid hD3
 have hsz3:=hb3.size
 clear hw3 hd hperm hS hsr hH3 hD3 hp hsrt HS HH
 go_wp2
 go_ret2
 exact⟨_,c2,g,rfl,hc2,hb12.trans (hb3.mono hsz1),fun _=>by omega,by omega,HD3.out⟩
theorem qn0(w:World)(lo hi:Nat)(A:Option Addr)(n c:Nat)(xs:List (Int×Int))(hX:Descs w lo hi A n xs)(hhi:hi<=w.heap.size)(h0:0 < w.heap.size)(r:Int)(hr:qct xs=r)(hne:(r==0)=false) :
  Calls Tryz.prog 204 #[.slice A n c] w fun e w'=>e=.returned (.tuple #[.slice none 0 0,.int .i64 r])/\Below w.heap.size w w':=by
 have HR:=Lib.hid hr
 have hne2:(r != 0)=true:=by simpa using hne
 clear hr
 go_enter Tryz.func204,Tryz.ntmps204
 go_wp2_with fail
 refine (Check_any _ lo hi A n c xs hX hhi h0 r HR.out).mono ?_
 rintro e w1 ⟨rfl,hb1⟩
 go_wp2
 go_ret2
 exact⟨rfl,hb1⟩
theorem qfu{B b:Nat}(hB:B<=b):∀ (vs:List Value) (o:Nat) (w:World),Below B w (w.setCells b o vs)
 | [],_,w=>Below.refl B w
 | v::r,o,w=>by
  rw [World.setCells]
  exact ((Below.refl B w).setCell (p:=⟨b,o,none⟩) hB v).trans (qfu hB r (o+1) _)
theorem q1u(w:World)(ty:TypeId)(b o m c:Nat)(hm:0 < m)(hc:∀ j,j < m*2->(w.cell? ⟨b,o+j,none⟩).isSome=true)(hf:∀ j,j < m*2->w.frozen? ⟨b,o+j,none⟩=false) :
  (Builtin.clear_ #[57] ty #[.slice (some ⟨b,o,none⟩) m c]).run Tryz.prog w=.ok (.tuple #[]) (w.setCells b o (List.replicate (m*2) (.int .i64 0))):=by
 have hv:=Tryz.zeroValue195
 have hzc:(Builtin.zeroCells (Value.agg #[.int .i64 0,.int .i64 0]).cells m).toList=List.replicate (m*2) (.int .i64 0):=by
  simp [Builtin.zeroCells,Value.cells]
  apply List.ext_getElem
  . simp
  intro i h1 h2
  rcases Nat.mod_two_eq_zero_or_one i with h|h<;>simp [h]
 have hst:=run_storeCells_cells (P:=Tryz.prog) b o (List.replicate (m*2) (.int .i64 0)) 0 w (by simpa using hc) (by simpa using hf) (by intro v hv'; rw [List.eq_of_mem_replicate hv']; rfl)
 simp only [Nat.add_zero] at hst
 obtain⟨m,rfl⟩:∃ k,m=k+1:=⟨m-1,by omega⟩
 simp [Builtin.clear_,run_underlying Tryz.underlying57,hv,hzc,hst]
theorem Descs.set_{w:World}{rb n:Nat}{off:Nat}{ys:List (Int×Int)}(h:Descs w rb (rb+1) (some ⟨rb,off,none⟩) n ys){i:Nat}(hi:i < n)(x:Int×Int)(hx:Rng x) :
  Descs ((w.setCell ⟨rb,off+i*2,none⟩ (.int .i64 x.1)).setCell ⟨rb,off+i*2+1,none⟩ (.int .i64 x.2)) rb (rb+1) (some ⟨rb,off,none⟩) n (ys.set i x):=by
 have hl:=h.len
 refine⟨by simp [hl],fun y hy=>?_,h.big,fun h0=>⟨rb,off,rfl,Nat.le_refl _,by omega,fun j hj=>?_⟩⟩
 . rcases List.mem_or_eq_of_mem_set hy with h1 | h1
   . exact h.wf y h1
   rw [h1]; exact hx
 obtain⟨b',off',e,_,_,hc⟩:=h.row h0
 injection e with e
 injection e with e1 e2
 subst e1
 subst e2
 obtain⟨⟨a1,a2⟩,a3,a4⟩:=hc j hj
 obtain⟨⟨b1,b2⟩,b3,b4⟩:=hc i hi
 simp only [World.frozen?_setCell]
 rw [List.getElem?_set]
 by_cases e:i=j
 . subst e
   rw [if_pos rfl,if_pos (by omega)]
   refine⟨⟨?_,a2⟩,?_,a4⟩
   . rw [World.cell?_setCell_other _ _ _ _ (fun e=>by injection e with _ e2; omega),World.cell?_setCell_same _ _ _ b1]
     rfl
   have b3':(w.setCell ⟨rb,off+i*2,none⟩ (.int .i64 x.1)).cell? ⟨rb,off+i*2+1,none⟩=some (.int .i64 (ys[i]?.getD (0,0)).2):=by
    rw [World.cell?_setCell_other _ _ _ _ (fun e=>by injection e with _ e2; omega)]
    exact b3
   rw [World.cell?_setCell_same _ _ _ b3']
   rfl
 rw [if_neg e]
 refine⟨⟨?_,a2⟩,?_,a4⟩
 . rw [World.cell?_setCell_other _ _ _ _ (fun e=>by injection e with _ e2; omega),World.cell?_setCell_other _ _ _ _ (fun e=>by injection e with _ e2; omega)]
   exact a1
 rw [World.cell?_setCell_other _ _ _ _ (fun e=>by injection e with _ e2; omega),World.cell?_setCell_other _ _ _ _ (fun e=>by injection e with _ e2; omega)]
 exact a3
def qwr{σ:Type}(base rb:Nat)(p:σ->Int×Int->Bool)(st:σ->Int×Int->σ)(w:World)(s0:σ)(A:Option Addr)(c:Nat)(xs:List (Int×Int))(e:Ending)(w':World):Prop :=
 ∃ m,e=.returned (.slice A m c)/\m<=xs.length/\Below base w w'/\Descs w' rb (rb+1) A m (qjn p st s0 xs)
theorem qj5{σ:Type}{g:Nat}{cb:Array Value}{base rb:Nat}{row:Option Nat}{Inv:World->σ->Prop}{Ok:Int×Int->Prop}{p:σ->Int×Int->Bool}{st:σ->Int×Int->σ}(hP:qj2 g cb base rb row Inv Ok p st)
  (w:World) (s0:σ) (hinv:Inv w s0) (hbase:base<=w.heap.size) (hrb:rb < w.heap.size) (hbr:base<=rb) (off n c:Nat) (xs:List (Int×Int)) (hX:Descs w rb (rb+1) (some ⟨rb,off,none⟩) n xs) (hok:∀ x∈xs,Ok x) (hnc:n<=c)
  (i:Nat) (s1:σ) (hr:qwt p st s0 xs 0=((i:Int),s1)) (hi:i < n) (hs1:s1=stF st s0 (xs.take (i+1))) (hd1:qjn p st s0 (xs.take (i+1))=xs.take i) :
  Calls Tryz.prog 195 #[.slice (some ⟨rb,off,none⟩) n c,.func (.func g) #[] cb] w (qwr base rb p st w s0 (some ⟨rb,off,none⟩) c xs):=by
 have HR:=Lib.hid hr
 have HL:=Lib.hid hX.len
 have HOK:=Lib.hid hok
 have HS1:=Lib.hid hs1
 have HD1:=Lib.hid hd1
 have eg:=hP.enters
 have hbig:=hX.big
 clear hr hok hs1 hd1
 have hm1:((i:Int)==-1)=false:=by rw [beq_eq_false_iff_ne]; omega
 go_enter Tryz.func195,Tryz.ntmps195
 go_wp2_with fail
 refine (qeu hP _ s0 hinv hbase (by assumption) _ n c xs hX HOK.out i s1 HR.out).mono ?_
 rintro e w1 ⟨rfl,hi1,hb1,hD1⟩
 have HI1:=Lib.hid hi1
 clear hi1 hX hinv
 go_wp2
 go_loopw [5,6,7] (fun iv jv _ wr=>∃ i j:Nat,∃ ys:List (Int×Int),∃ s:σ,iv=.int .i64 i/\jv=.int .i64 j/\i < j/\j<=n/\Hid (ys.take i=qjn p st s0 (xs.take j))/\Hid (ys.drop j=xs.drop j)/\Hid (s=stF st s0 (xs.take j))/\Descs wr rb (rb+1) (some ⟨rb,off,none⟩) n ys/\Hid (Inv wr s)/\Below base w wr)
  (fun _ jv _ _=>n-(intOf jv).toNat)
 case atStart=>exact⟨i,i+1,xs,s1,rfl,by go_num,by omega,by omega,HD1.out.symm,rfl,HS1.out,hD1,HI1,hb1⟩
 clear hD1 HI1 hb1 HD1 HS1 hi hm1
 obtain⟨i,j,ys,s,rfl,rfl,hij,hjn,htk,hdr,hst,hD,hin,hnx⟩:=hrel
 have hsz:=hnx.size
 obtain⟨b',off',e,_,_,hc⟩:=hD.row (by omega)
 injection e with e
 injection e with e1 e2
 subst e1
 subst e2
 by_cases hlt:j < n
 . obtain⟨⟨g1,_⟩,g3,_⟩:=hc j hlt
   obtain⟨⟨f1,f2⟩,f3,f4⟩:=hc i (by omega)
   have hyx:ys[j]?.getD (0,0)=xs[j]?.getD (0,0):=by
    have:=congrArg (fun l=>l[0]?.getD (0,0)) hdr.out
    simpa using this
   rw [hyx] at g1 g3
   have hm:xs[j]?.getD (0,0)∈xs:=by rw [List.getElem?_eq_getElem (by rw [HL.out]; exact hlt)]; exact List.getElem_mem _
   have hrng:Rng (xs[j]?.getD (0,0)):=by rw [<-hyx]; exact hD.at_ j
   have hxj:xs.take (j+1)=xs.take j++[xs[j]?.getD (0,0)]:=by
    rw [List.take_succ_eq_append_getElem (by rw [HL.out]; exact hlt),List.getElem?_eq_getElem (by rw [HL.out]; exact hlt)]
    rfl
   have hdf:=qe3 p st (xs.take j) s0 (xs[j]?.getD (0,0))
   have hsf:=qp2 st (xs.take j) s0 (xs[j]?.getD (0,0))
   rw [<-hxj,<-hst.out] at hdf hsf
   have hdr2:ys.drop (j+1)=xs.drop (j+1):=by
    have:=congrArg List.tail hdr.out
    simpa using this
   have hok:=HOK.out _ hm
   generalize xs[j]?.getD (0,0)=x at g1 g3 hrng hdf hsf hok
   obtain⟨x1,x2⟩:=x
   have hbox:=hP.alloc wr s (.cells #[.int .i64 x1,.int .i64 x2] 195) hin.out
   have hcall:=hP.call (wr.alloc (.cells #[.int .i64 x1,.int .i64 x2] 195)) s (x1,x2) (by simp; omega) (by simp; omega) hbox hok hrng
   have HC:=Lib.hid hcall
   have HDF:=Lib.hid hdf
   have HSF:=Lib.hid hsf
   have HDR2:=Lib.hid hdr2
   have hi0:(0:Int)<=(i:Int):=by omega
   have hin2:(i:Int) < (n:Int):=by omega
   clear hc hyx hm hxj hdf hsf hcall hdr2 hbox hok
   cases hq:p s (x1,x2) with
   | true =>
    have hcall:=HC.out
    have hdf:=HDF.out
    rw [hq] at hcall hdf
    rw [if_pos rfl,List.append_nil] at hdf
    have HC2:=Lib.hid hcall
    have HDF2:=Lib.hid hdf
    clear hcall hdf hq HC HDF f1 f2 f3 f4
    go_wp2_with fail
    refine HC2.out.mono ?_
    rintro e w2 ⟨rfl,hi2,hg⟩
    have hb2:=((Below.refl base wr).alloc (by omega) (.cells #[.int .i64 x1,.int .i64 x2] 195)).trans (hP.below hg (by simp; omega))
    have hk2:=hP.kept hg (by simp; omega)
    have hD2:=(hD.keep (w':=wr.alloc (.cells #[.int .i64 x1,.int .i64 x2] 195)) fun q h1 h2=>have h3:q.block < wr.heap.size:=by omega
     ⟨World.cell?_alloc_lt _ _ _ h3,World.frozen?_alloc_past _ _ _ h3⟩).of_keep hk2
    have HI2:=Lib.hid hi2
    clear hi2 hg hk2
    go_wp2
    go_roundw
    case rel=>exact⟨i,j+1,ys,st s (x1,x2),rfl,by go_num,by omega,by omega,htk.out.trans HDF2.out.symm,HDR2,HSF.out.symm,hD2,HI2,hnx.trans hb2⟩
    case measure=>simp [intOf]; omega
   | false =>
    have hcall:=HC.out
    have hdf:=HDF.out
    rw [hq] at hcall hdf
    rw [if_neg (by simp)] at hdf
    have HC2:=Lib.hid hcall
    have HDF2:=Lib.hid hdf
    clear hcall hdf hq HC HDF
    go_wp2_with fail
    refine HC2.out.mono ?_
    rintro e w2 ⟨rfl,hi2,hg⟩
    have hb2:=((Below.refl base wr).alloc (by omega) (.cells #[.int .i64 x1,.int .i64 x2] 195)).trans (hP.below hg (by simp; omega))
    have hk2:=hP.kept hg (by simp; omega)
    have hD2:=(hD.keep (w':=wr.alloc (.cells #[.int .i64 x1,.int .i64 x2] 195)) fun q h1 h2=>have h3:q.block < wr.heap.size:=by omega
     ⟨World.cell?_alloc_lt _ _ _ h3,World.frozen?_alloc_past _ _ _ h3⟩).of_keep hk2
    have HI2:=Lib.hid hi2
    have hvb:w2.heap[wr.heap.size]? = some (.cells #[.int .i64 x1,.int .i64 x2] 195 (0,0)):=by
     rw [hg.block wr.heap.size (by simp) (fun e=>by have:=hP.lt wr s _ e.symm hin.out; omega)]
     exact heap_alloc_new _ _
    have v1:w2.cell? ⟨wr.heap.size,0,none⟩=some (.int .i64 x1):=by rw [cell_of_row w2 _ 0 _ _ _ hvb]; rfl
    have v2:w2.cell? ⟨wr.heap.size,1,none⟩=some (.int .i64 x2):=by rw [cell_of_row w2 _ 1 _ _ _ hvb]; rfl
    obtain⟨b',off2,e,_,_,hc2⟩:=hD2.row (by omega)
    injection e with e
    injection e with e1 e2
    subst e1
    subst e2
    obtain⟨⟨f1,f2⟩,f3,f4⟩:=hc2 i (by omega)
    have hD3:=hD2.set_ (i:=i) (by omega) (x1,x2) hrng
    have hI3:=hP.set_ _ (st s (x1,x2)) ⟨rb,off+i*2+1,none⟩ (.int .i64 x2) rfl (hP.set_ w2 (st s (x1,x2)) ⟨rb,off+i*2,none⟩ (.int .i64 x1) rfl HI2.out)
    have HI3:=Lib.hid hI3
    clear hi2 hg hk2 hvb hc2 hI3 HI2
    go_wp2
    go_roundw
    case rel =>
     refine⟨i+1,j+1,ys.set i (x1,x2),st s (x1,x2),by go_num,by go_num,by omega,by omega,?_,?_,HSF.out.symm,hD3,HI3,(hnx.trans hb2).trans (((Below.refl _ _).setCell (p:=⟨rb,off+i*2,none⟩) (by exact hbr) _).setCell (p:=⟨rb,off+i*2+1,none⟩) (by exact hbr) _)⟩
     . rw [Hid,HDF2.out,<-htk.out,List.take_succ_eq_append_getElem (by simp; have:=hD2.len; omega),List.take_set]
       have hi1:(ys.set i (x1,x2))[i]'(by simp; have:=hD2.len; omega)=(x1,x2):=List.getElem_set_self ..
       rw [hi1]
       congr 1
       exact List.set_eq_of_length_le (by simp; omega)
     rw [Hid,List.drop_set,if_pos (by omega)]
     exact HDR2.out
    case measure=>simp [intOf]; omega
 obtain rfl:j=n:=by omega
 have hcl:∀ ty,(Builtin.clear_ #[57] ty #[.slice (some ⟨rb,off+i*2,none⟩) (j-i) (c-i)]).run Tryz.prog wr=.ok (.tuple #[]) (wr.setCells rb (off+i*2) (List.replicate ((j-i)*2) (.int .i64 0))):=fun ty =>
  q1u wr ty rb (off+i*2) (j-i) (c-i) (by omega)
   (fun t ht=>by
    obtain⟨⟨a1,_⟩,a3,_⟩:=hc (i+t/2) (by omega)
    rcases Nat.mod_two_eq_zero_or_one t with h|h
    . rw [show off+i*2+t=off+(i+t/2)*2 by omega,a1]; rfl
    rw [show off+i*2+t=off+(i+t/2)*2+1 by omega,a3]; rfl)
   (fun t ht=>by
    obtain⟨⟨_,a2⟩,_,a4⟩:=hc (i+t/2) (by omega)
    rcases Nat.mod_two_eq_zero_or_one t with h|h
    . rw [show off+i*2+t=off+(i+t/2)*2 by omega]; exact a2
    rw [show off+i*2+t=off+(i+t/2)*2+1 by omega]; exact a4)
 have hfin:Descs (wr.setCells rb (off+i*2) (List.replicate ((j-i)*2) (.int .i64 0))) rb (rb+1) (some ⟨rb,off,none⟩) i (ys.take i):=by
  refine⟨by have:=hD.len; simp; omega,fun y hy=>hD.wf y (List.mem_of_mem_take hy),by omega,fun h0=>⟨rb,off,rfl,Nat.le_refl _,by omega,fun t ht=>?_⟩⟩
  obtain⟨⟨a1,a2⟩,a3,a4⟩:=hc t (by omega)
  rw [List.getElem?_take,if_pos ht]
  simp only [World.frozen?_setCells]
  refine⟨⟨?_,a2⟩,?_,a4⟩
  . rw [World.cell?_setCells_out _ _ _ _ _ (fun _ _=>.inl (by show off+t*2 < off+i*2; omega))]
    exact a1
  rw [World.cell?_setCells_out _ _ _ _ _ (fun _ _=>.inl (by show off+t*2+1 < off+i*2; omega))]
  exact a3
 have htk2:=htk.out
 rw [List.take_of_length_le (l:=xs) (by rw [HL.out]; exact Nat.le_refl _)] at htk2
 have hlen:i<=xs.length:=by rw [HL.out]; omega
 rw [htk2] at hfin
 have HF:=Lib.hid hfin
 have hbf:=hnx.trans (qfu hbr (List.replicate ((j-i)*2) (.int .i64 0)) (off+i*2) wr)
 have hci:((c:Int)==(i:Int))=false:=by rw [beq_eq_false_iff_ne]; omega
 have hci2:¬ c=i:=by omega
 clear hc htk hdr hst htk2 hfin
 go_wp2
 go_ret
 exact⟨i,rfl,hlen,hbf,HF.out⟩
theorem qfy{σ:Type}{g:Nat}{cb:Array Value}{base rb:Nat}{row:Option Nat}{Inv:World->σ->Prop}{Ok:Int×Int->Prop}{p:σ->Int×Int->Bool}{st:σ->Int×Int->σ}(hP:qj2 g cb base rb row Inv Ok p st)
  (w:World) (s0:σ) (hinv:Inv w s0) (hbase:base<=w.heap.size) (hrb:rb < w.heap.size) (A:Option Addr) (n c:Nat) (hbr:0 < n->base<=rb) (xs:List (Int×Int)) (hX:Descs w rb (rb+1) A n xs) (hok:∀ x∈xs,Ok x) (hnc:n<=c) :
  Calls Tryz.prog 195 #[.slice A n c,.func (.func g) #[] cb] w (qwr base rb p st w s0 A c xs):=by
 obtain⟨r,hr⟩:∃ r,qwt p st s0 xs 0=r:=⟨_,rfl⟩
 obtain⟨r,s1⟩:=r
 rcases qje p st xs s0 0 r s1 hr with ⟨rfl,_,h3⟩|⟨i,hi,rfl,h2,h3,_⟩
 . have HR:=Lib.hid hr
   have H3:=Lib.hid h3
   have HL:=Lib.hid hX.len
   have HOK:=Lib.hid hok
   clear hr h3 hok
   go_enter Tryz.func195,Tryz.ntmps195
   go_wp2_with fail
   refine (qeu hP _ s0 hinv hbase (by assumption) _ n c xs hX HOK.out (-1) s1 HR.out).mono ?_
   rintro e w1 ⟨rfl,hi1,hb1,hD1⟩
   have HI1:=Lib.hid hi1
   clear hi1 hX hinv
   go_wp2
   go_ret
   exact⟨n,rfl,by rw [HL.out]; exact Nat.le_refl _,hb1,by rw [H3.out]; exact hD1⟩
 have hin:i < n:=by rw [hX.len] at hi; exact hi
 obtain⟨b,off,rfl,h4,h5,_⟩:=hX.row (by omega)
 obtain rfl:rb=b:=by omega
 exact qj5 hP w s0 hinv hbase hrb (hbr (by omega)) off n c xs hX hok hnc i s1 (by rw [hr,Nat.zero_add]) hin h2 h3
theorem qr1{a w:World}{row:Option Nat}(h:a.grownBy w row)(o:Obj):a.grownBy (w.alloc o) row :=
 ⟨h.os,h.tape,h.output,Nat.le_trans h.size (by simp),fun i hi hne=>(Below.heap_alloc w o i (Nat.lt_of_lt_of_le hi h.size)).trans (h.block i hi hne)⟩
theorem qm4{a w:World}{g:Nat}(h:a.grownBy w (some g)){p:Addr}(hp:p.block=g)(u:Value):a.grownBy (w.setCell p u) (some g) :=
 ⟨h.os,h.tape,h.output,by simpa [World.setCell] using h.size,fun i hi hne=>(Below.heap_setCell w p u i (by rintro rfl; exact hne (by rw [hp]))).trans (h.block i hi hne)⟩
def qij(s:List Int):Array Value:=#[.bool (decide ((0:Int)∈s)),.bool (decide ((1:Int)∈s)),.bool (decide ((2:Int)∈s)),.bool (decide ((3:Int)∈s)),.bool (decide ((4:Int)∈s)),.bool (decide ((5:Int)∈s)),.bool (decide ((6:Int)∈s)),.bool (decide ((7:Int)∈s))]
def qog(s:List Int)(x:Int×Int):Bool:=decide (x.1∈s)
def qic(s:List Int)(x:Int×Int):List Int:=if x.1∈s then s else x.1::s
theorem qe4:∀ (l:List (Int×Int)) (s:List Int),qjn qog qic s l=qdw s l
 | [],_=>rfl
 | x::l,s=>by
  simp only [qjn,qdw,qog,qic]
  by_cases h:x.1∈s
  . simp only [h,decide_true,if_true]
    exact qe4 l s
  simp only [h,decide_false,if_false]
  rw [qe4 l]
  rfl
theorem qjv(s:List Int):∀ i:Nat,(qij s)[i]? = if i < 8 then some (.bool (decide ((i:Int)∈s))) else none
 | 0=>rfl
 | 1=>rfl
 | 2=>rfl
 | 3=>rfl
 | 4=>rfl
 | 5=>rfl
 | 6=>rfl
 | 7=>rfl
 | i+8=>by
  rw [if_neg (by omega)]
  rfl
theorem qv2(s:List Int)(k:Nat)(hk:k < 8)(y:Int):(qij s).setIfInBounds k (.bool true)=qij (qic s ((k:Int),y)):=by
 apply Array.ext_getElem?
 intro i
 rw [Array.getElem?_setIfInBounds,qjv,qjv]
 have hsz:(qij s).size=8:=by simp [qij]
 by_cases e:k=i
 . subst e
   rw [if_pos rfl,if_pos (by omega),if_pos hk]
   unfold qic
   by_cases h:(k:Int)∈s<;>simp [h]
 rw [if_neg e]
 have hne:¬ (i:Int)=(k:Int):=by omega
 by_cases h8:i < 8
 . rw [if_pos h8,if_pos h8]
   unfold qic
   by_cases h:(k:Int)∈s<;>simp [h,hne]
 rw [if_neg h8,if_neg h8]
theorem qw6(W:World)(T:Nat)(t:TypeId)(s:List Int)(x y:Int)(hT:W.heap[T]? = some (.cells (qij s) t (0,0)))(hx0:0<=x)(hx8:x < 8) :
  Calls Tryz.prog 205 #[.agg #[.int .i64 x,.int .i64 y],.pointer (some ⟨T,0,none⟩)] W fun e w'=>e=.returned (.bool (qog s (x,y)))/\w'.heap[T]? = some (.cells (qij (qic s (x,y))) t (0,0))/\W.grownBy w' (some T):=by
 obtain⟨k,rfl⟩:∃ k:Nat,x=k:=⟨x.toNat,by omega⟩
 have hk:k < 8:=by omega
 have hlt:T < W.heap.size:=by
  rcases Nat.lt_or_ge T W.heap.size with h|h
  . exact h
  rw [Array.getElem?_eq_none h] at hT; cases hT
 have hc:W.cell? ⟨T,k,none⟩=some (.bool (decide ((k:Int)∈s))):=by
  rw [cell_of_row W T k _ t (0,0) hT]
  rw [qjv,if_pos hk]
 have hf:W.frozen? ⟨T,k,none⟩=false:=frozen_of_row W T k _ t hT
 have HT:=Lib.hid hT
 have HB:=Lib.hid (qv2 s k hk y)
 clear hT
 obtain⟨b,hb⟩:∃ b,decide ((k:Int)∈s)=b:=⟨_,rfl⟩
 have hp:qog s ((k:Int),y)=b:=hb
 rw [hb] at hc
 rw [hp]
 clear hb hp
 have hfin:((W.setCell ⟨T,k,none⟩ (.bool true)).alloc (.cells #[.int .i64 k,.int .i64 y] 195)).heap[T]? = some (.cells (qij (qic s ((k:Int),y))) t (0,0)):=by
  rw [Below.heap_alloc _ _ T (by simpa [World.setCell] using hlt),heap_setCell_same W T k _ t _ HT.out,HB.out]
 have HF:=Lib.hid hfin
 clear hfin
 go_enter Tryz.func205,Tryz.ntmps205
 go_wp2
 go_ret
 exact⟨rfl,HF.out,qr1 (qm4 (World.grownBy.refl W _) rfl _) _⟩
theorem qts(base rb T:Nat)(t:TypeId)(h1:base<=T)(h2:T≠rb):qj2 205 #[.pointer (some ⟨T,0,none⟩)] base rb (some T) (fun W s=>W.heap[T]? = some (.cells (qij s) t (0,0))) (fun x=>0<=x.1/\x.1 < 8) qog qic where
 enters:=enters_of Tryz.func205 (by kernel_rfl) rfl
 row_ k h:=by injection h with h; subst h; exact⟨h1,h2⟩
 lt W s k h hi:=by
  injection h with h
  subst h
  rcases Nat.lt_or_ge T W.heap.size with h|h
  . exact h
  rw [Array.getElem?_eq_none h] at hi; cases hi
 call W s x _ _ hi hok _:=qw6 W T t s x.1 x.2 hi hok.1 hok.2
 alloc W s o hi:=by
  have hlt:T < W.heap.size:=by
   rcases Nat.lt_or_ge T W.heap.size with h|h
   . exact h
   rw [Array.getElem?_eq_none h] at hi; cases hi
  exact (Below.heap_alloc W o T hlt).trans hi
 set_ W s q v hq hi:=(Below.heap_setCell W q v T (by rw [hq]; exact h2)).trans hi
def qy6(w:World)(xs:List (Int×Int))(e:Ending)(w':World):Prop :=
 ∃ A' n' c' rb,e=.returned (.tuple #[.slice A' n' c',.int .i64 0])/\n'<=c'/\Below w.heap.size w w'/\(0 < n'->w.heap.size<=rb)/\rb < w'.heap.size/\Descs w' rb (rb+1) A' n' (qyl xs)
theorem q04(w:World)(lo hi:Nat)(A:Option Addr)(n c:Nat)(xs:List (Int×Int))(hX:Descs w lo hi A n xs)(hhi:hi<=w.heap.size)(h0:0 < w.heap.size)(hr:qct xs=0) :
  Calls Tryz.prog 194 #[.slice A n c] w (qy6 w xs):=by
 have HR:=Lib.hid hr
 have hmay:∀ x∈srt xs,0<=x.1/\x.1 < 8:=fun x hx=>by
  have:=List.all_eq_true.1 (qnm hr).2 x (qod.1 hx)
  rw [qdm] at this
  exact⟨this.1,this.2.1⟩
 have HM:=Lib.hid hmay
 clear hr hmay
 go_enter Tryz.func194,Tryz.ntmps194
 go_wp2_with fail
 refine (qq8 _ lo hi A n c xs hX hhi h0 HR.out).mono ?_
 rintro e w1 ⟨A1,c1,rb,rfl,hc1,hb1,hrb1,hrb2,hD⟩
 have hsz1:=hb1.size
 go_wp2_with fail
 have hnew:(w1.alloc (.cells #[.bool false,.bool false,.bool false,.bool false,.bool false,.bool false,.bool false,.bool false] 234)).heap[w1.heap.size]? = some (.cells (qij []) 234 (0,0)):=by
  rw [show qij []=#[.bool false,.bool false,.bool false,.bool false,.bool false,.bool false,.bool false,.bool false] by simp [qij]]
  exact heap_alloc_new _ _
 have hDa:Descs (w1.alloc (.cells #[.bool false,.bool false,.bool false,.bool false,.bool false,.bool false,.bool false,.bool false] 234)) rb (rb+1) A1 n (srt xs):=hD.alloc (by omega) _
 refine (qfy (qts w.heap.size rb w1.heap.size 234 hsz1 (by omega)) _ [] hnew (by simp; omega) (by simp; omega) A1 n c1 hrb1 (srt xs) hDa HM.out hc1).mono ?_
 rintro e w2 ⟨m,rfl,hm,hb2,hD2⟩
 rw [qe4] at hD2
 have hsz2:=hb2.size
 have hmc:m<=c1:=by have:=hD.len; omega
 have hm0:0 < m->0 < n:=by have:=hD.len; omega
 clear hnew hDa
 go_wp2
 go_ret2
 exact⟨A1,m,c1,rb,rfl,hmc,(hb1.alloc hsz1 _).trans hb2,fun h=>hrb1 (hm0 h),by simp at hsz2; omega,hD2⟩
theorem qy4(w:World)(lo hi:Nat)(A:Option Addr)(n c:Nat)(xs:List (Int×Int))(hX:Descs w lo hi A n xs)(hhi:hi<=w.heap.size)(h0:0 < w.heap.size)(r:Int)(hr:qct xs=r)(hne:(r==0)=false) :
  Calls Tryz.prog 194 #[.slice A n c] w fun e w'=>e=.returned (.tuple #[.slice none 0 0,.int .i64 r])/\Below w.heap.size w w':=by
 have hne2:(r != 0)=true:=by simpa using hne
 go_enter Tryz.func194,Tryz.ntmps194
 go_wp2_with fail
 refine (qn0 _ lo hi A n c xs hX hhi h0 r hr hne).mono ?_
 rintro e w1 ⟨rfl,hb1⟩
 clear hr
 go_wp2
 go_ret2
 exact⟨rfl,hb1⟩
theorem qyp(w:World)(lo hi lo' hi':Nat)(A A':Option Addr)(n c n' c':Nat)(xs ys:List (Int×Int))(hX:Descs w lo hi A n xs)(hY:Descs w lo' hi' A' n' ys)(r:Bool)(hr:Sm xs ys=r) :
  Calls Tryz.prog 164 #[.slice A n c,.slice A' n' c'] w fun e w'=>e=.returned (.bool r)/\∃ m,w'=w.drewN m:=by
 have HR:=Lib.hid hr
 clear hr
 go_enter Tryz.func164,Tryz.ntmps164
 go_wp2_with fail
 refine (Equal_any _ lo hi lo' hi' A A' n c n' c' xs ys hX hY r HR.out).mono ?_
 rintro e w1 ⟨rfl,m,rfl⟩
 go_wp2
 go_ret
 exact⟨rfl,m,rfl⟩
theorem Below.keepCell{B:Nat}{w w':World}(h:Below B w w'){b o:Nat}{v:Value}(hb:b < B)(hc:w.cell? ⟨b,o,none⟩=some v):w'.cell? ⟨b,o,none⟩=some v:=(h.cell (p:=⟨b,o,none⟩) hb).trans hc
def four:List (Int×Int):=[(1,5),(0,5),(2,9),(1,7)]
theorem qzg(w:World)(lo hi lo' hi':Nat)(A A':Option Addr)(n c n' c':Nat)(xs ys:List (Int×Int))(hX:Descs w lo hi A n xs)(hY:Descs w lo' hi' A' n' ys)(r:Bool)(hr:Sm xs ys=r) :
  Calls Tryz.prog 164 #[.slice A n c,.slice A' n' c'] w fun e w'=>e=.returned (.bool r)/\Below w.heap.size w w' :=
 (qyp w lo hi lo' hi' A A' n c n' c' xs ys hX hY r hr).mono fun e w' ⟨he,m,hm⟩=>⟨he,by rw [hm]; exact qa0 _ _ _⟩
def fr(a b:Int×Int):Bool×Int:=if (may a && may b)=true then (ltB a b,0) else (false,8)
theorem Descs.gr{w w':World}{lo hi:Nat}{A:Option Addr}{n:Nat}{xs:List (Int×Int)}(h:Descs w lo hi A n xs)(hg:Gr w w')(hB:hi<=w.heap.size):Descs w' lo hi A n xs:=h.below hg.below hB
end De
end Go.Proofs.YtmbppgjhdcmckaaGreatDoor