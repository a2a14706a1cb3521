/- What may be wrong with a node that is up: walks (printed by a program of mine). -/
import Derived.Test.YtmbppgjhdcmckaaGreatDoorBj22
import Derived.StillTailTactics
import Derived.ArgAppend
import Derived.Laws.IdiomStrings
import Derived.Maps.OwnIn
set_option maxHeartbeats 102400000
set_option maxRecDepth 100000
namespace Go.Proofs.YtmbppgjhdcmckaaGreatDoor
open Go.RowKit
namespace No
open Ma (Pv PRows qbf qzl qke qd6 qbo)
open NoT (timersC)
open De (mayC)
open Dy
def qe1(v:Nv):Int:=(v.fs[v.fn-1]?.map (·.e)).getD 0
noncomputable def qc9(v:Nv):Bool:=!qzl v.val || !qke v.kl v.kt v.ks v.ke v.kf
noncomputable def qen(v:Nv):Bool:=!qd6 v.P
noncomputable def qc8(v:Nv):Bool:=(!qft v && !qbf v.P Ma.ZPv) || !qix v
noncomputable def qem(v:Nv):Bool:=decide (qc3 v.hs≠0) || decide (timersC v.ts≠0)
noncomputable def qel(v:Nv):Bool:=!mayC v.own v.cap v.ds || decide (v.own≠v.id)
noncomputable def qd2(v:Nv):Bool:=decide (qbo v.fn v.fs≠0)
noncomputable def qd1(v:Nv):Bool:=decide (0 < v.fn) && decide (v.ke<=qe1 v)
theorem qda(a b:Int):(a != b)=decide (a≠b):=by by_cases h:a=b<;>simp [h]
theorem qcl{P:Program}{F:FuncId}{args:Array Value}{w:World}{v:Value}(h:Calls P F args w fun e w'=>e=.returned v/\∃ m,w'=w.drewN m):Calls P F args w fun e w'=>e=.returned v/\Below w.heap.size w w' :=
 h.mono fun e w' k=>⟨k.1,by obtain⟨m,hm⟩:=k.2; rw [hm]; exact qa0 _ _ _⟩
def qhy(w:World)(g1 g:Nat):Prop:=w.heap[g1]? = some (.cells #[.pointer (some ⟨g,0,none⟩)] 105 (0,0))
theorem qsr(w:World)(g1 g:Nat)(v:Nv)(h1:g1 < w.heap.size)(h2:g < w.heap.size)(bp:qhy w g1 g)(bo:qak 107 w g v)(hR:NRows w 0 w.heap.size v)(k:Bool)(hk:qc9 v=k) :
  Calls Tryz.prog 115 #[.pointer (some ⟨g1,0,none⟩)] w fun e w'=>e=.returned (.bool k)/\Below w.heap.size w w':=by
 have HK:=Lib.hid hk
 clear hk
 obtain⟨a,ha⟩:∃ a,qzl v.val=a:=⟨_,rfl⟩
 obtain⟨b,hb⟩:∃ b,qke v.kl v.kt v.ks v.ke v.kf=b:=⟨_,rfl⟩
 have HA:=Lib.hid ha
 have HB:=Lib.hid hb
 clear ha hb
 go_enter Tryz.func115,Tryz.ntmps115
 have pp:w.cell? ⟨g1,0,none⟩=some (.pointer (some ⟨g,0,none⟩)):=cell_of_row w g1 0 _ _ _ bp
 have c1:w.cell? ⟨g,1,none⟩=some (.int .i64 v.val):=qak.at_ bo 1 _ rfl
 go_wp2_with fail
 refine (Ma.nvalue_any w v.val a HA.out).mono ?_
 rintro e' v1 ⟨rfl,j2⟩
 try clear hw
 clear pp c1
 cases a
 case false =>
  obtain rfl:k=true:=by rw [<-HK.out]; unfold qc9; rw [HA.out]; rfl
  go_wp2
  go_ret
  exact⟨rfl,j2⟩
 have pp:v1.cell? ⟨g1,0,none⟩=some (.pointer (some ⟨g,0,none⟩)):=cell_of_row v1 g1 0 _ _ _ (qaa bp j2 h1)
 have c3:v1.cell? ⟨g,3,none⟩=some (.int .i64 v.kl):=qak.at_ (qaa bo j2 h2) 3 _ rfl
 have c4:v1.cell? ⟨g,4,none⟩=some (.int .i64 v.kt):=qak.at_ (qaa bo j2 h2) 4 _ rfl
 have c5:v1.cell? ⟨g,5,none⟩=some (.int .i64 v.ks):=qak.at_ (qaa bo j2 h2) 5 _ rfl
 have c6:v1.cell? ⟨g,6,none⟩=some (.int .i64 v.ke):=qak.at_ (qaa bo j2 h2) 6 _ rfl
 have c7:v1.cell? ⟨g,7,none⟩=some (.int .i64 v.kf):=qak.at_ (qaa bo j2 h2) 7 _ rfl
 go_wp2_with fail
 refine (Ma.epochCheck_any v1 v.kl v.kt v.ks v.ke v.kf b HB.out).mono ?_
 rintro e' v3 ⟨rfl,j4⟩
 try clear hw
 clear pp c3 c4 c5 c6 c7
 cases b
 case false =>
  obtain rfl:k=true:=by rw [<-HK.out]; unfold qc9; rw [HA.out,HB.out]; rfl
  go_wp2
  go_ret
  exact⟨rfl,(lz j2 j4)⟩
 obtain rfl:k=false:=by rw [<-HK.out]; unfold qc9; rw [HA.out,HB.out]; rfl
 go_wp2
 go_ret
 exact⟨rfl,(lz j2 j4)⟩
theorem qsq(w:World)(g1 g:Nat)(v:Nv)(h1:g1 < w.heap.size)(h2:g < w.heap.size)(bp:qhy w g1 g)(bo:qak 107 w g v)(hR:NRows w 0 w.heap.size v)(k:Bool)(hk:qen v=k) :
  Calls Tryz.prog 116 #[.pointer (some ⟨g1,0,none⟩)] w fun e w'=>e=.returned (.bool k)/\Below w.heap.size w w':=by
 have HK:=Lib.hid hk
 clear hk
 obtain⟨a,ha⟩:∃ a,qd6 v.P=a:=⟨_,rfl⟩
 have HA:=Lib.hid ha
 clear ha
 go_enter Tryz.func116,Tryz.ntmps116
 have pp:w.cell? ⟨g1,0,none⟩=some (.pointer (some ⟨g,0,none⟩)):=cell_of_row w g1 0 _ _ _ bp
 have ra:=qak.part bo
 go_wp2_with (first
  | (refine wpList_load_mid rfl 30 (.tmp 5) rfl (g) 8 rfl [.bool v.P.M.S.s,.slice v.P.M.S.A v.P.M.S.n v.P.M.S.c,.int .i64 v.P.M.S.e,.bool v.P.M.W.s,.slice v.P.M.W.A v.P.M.W.n v.P.M.W.c,.int .i64 v.P.M.W.e,.bool v.P.M.C.s,.slice v.P.M.C.A v.P.M.C.n v.P.M.C.c,.int .i64 v.P.M.C.e,.bool v.P.M.A.s,.slice v.P.M.A.A v.P.M.A.n v.P.M.A.c,.int .i64 v.P.M.A.e,.bool v.P.h,.int .i64 v.P.mn,.int .i64 v.P.mx,.slice v.P.A v.P.n v.P.c] _ ra Tryz.underlying30 rfl (by kernel_rfl) ?_))
 refine (Ma.CheckPart_any w v.P hR.P a HA.out).mono ?_
 rintro e' v5 ⟨rfl,j6⟩
 try clear hw
 clear ra pp
 cases a
 case false =>
  obtain rfl:k=true:=by rw [<-HK.out]; unfold qen; rw [HA.out]; rfl
  go_wp2
  go_ret
  exact⟨rfl,j6⟩
 obtain rfl:k=false:=by rw [<-HK.out]; unfold qen; rw [HA.out]; rfl
 go_wp2
 go_ret
 exact⟨rfl,j6⟩
theorem qsp(w:World)(g1 g:Nat)(v:Nv)(h1:g1 < w.heap.size)(h2:g < w.heap.size)(bp:qhy w g1 g)(bo:qak 107 w g v)(hR:NRows w 0 w.heap.size v)(k:Bool)(hk:qc8 v=k) :
  Calls Tryz.prog 117 #[.pointer (some ⟨g1,0,none⟩)] w fun e w'=>e=.returned (.bool k)/\Below w.heap.size w w':=by
 have HK:=Lib.hid hk
 clear hk
 obtain⟨a,ha⟩:∃ a,qft v=a:=⟨_,rfl⟩
 obtain⟨b,hb⟩:∃ b,qbf v.P Ma.ZPv=b:=⟨_,rfl⟩
 obtain⟨c,hc⟩:∃ c,qix v=c:=⟨_,rfl⟩
 have HA:=Lib.hid ha
 have HB:=Lib.hid hb
 have HC:=Lib.hid hc
 clear ha hb hc
 go_enter Tryz.func117,Tryz.ntmps117
 have pp:w.cell? ⟨g1,0,none⟩=some (.pointer (some ⟨g,0,none⟩)):=cell_of_row w g1 0 _ _ _ bp
 go_wp2_with fail
 refine (qcl (qcz w g v bo a HA.out)).mono ?_
 rintro e' v7 ⟨rfl,j8⟩
 try clear hw
 clear pp
 cases a
 case true =>
  have pp:v7.cell? ⟨g1,0,none⟩=some (.pointer (some ⟨g,0,none⟩)):=cell_of_row v7 g1 0 _ _ _ (qaa bp j8 h1)
  go_wp2_with fail
  refine (qcl (qmj v7 g v (qaa bo j8 h2) c HC.out)).mono ?_
  rintro e' v9 ⟨rfl,j10⟩
  try clear hw
  clear pp
  cases c
  case false =>
   obtain rfl:k=true:=by rw [<-HK.out]; unfold qc8; rw [HA.out,HC.out]; rfl
   go_wp2
   go_ret
   exact⟨rfl,(lz j8 j10)⟩
  obtain rfl:k=false:=by rw [<-HK.out]; unfold qc8; rw [HA.out,HC.out]; rfl
  go_wp2
  go_ret
  exact⟨rfl,(lz j8 j10)⟩
 have pp:v7.cell? ⟨g1,0,none⟩=some (.pointer (some ⟨g,0,none⟩)):=cell_of_row v7 g1 0 _ _ _ (qaa bp j8 h1)
 have ra:=qak.part (qaa bo j8 h2)
 go_wp2_with (first
  | (refine Ma.wpList_load_midG (by rfl) 30 (.tmp 9) rfl (g) 8 rfl [.bool v.P.M.S.s,.slice v.P.M.S.A v.P.M.S.n v.P.M.S.c,.int .i64 v.P.M.S.e,.bool v.P.M.W.s,.slice v.P.M.W.A v.P.M.W.n v.P.M.W.c,.int .i64 v.P.M.W.e,.bool v.P.M.C.s,.slice v.P.M.C.A v.P.M.C.n v.P.M.C.c,.int .i64 v.P.M.C.e,.bool v.P.M.A.s,.slice v.P.M.A.A v.P.M.A.n v.P.M.A.c,.int .i64 v.P.M.A.e,.bool v.P.h,.int .i64 v.P.mn,.int .i64 v.P.mx,.slice v.P.A v.P.n v.P.c] _ ra Tryz.underlying30 rfl (by kernel_rfl) ?_))
 refine (Ma.SamePart_any v7 v.P Ma.ZPv (NRows.on hR j8).P ⟨⟨qae.nil_ ..,qae.nil_ ..,qae.nil_ ..,qae.nil_ ..⟩,qae.nil_ ..⟩ b HB.out).mono ?_
 rintro e' v11 ⟨rfl,j12⟩
 try clear hw
 clear ra pp
 cases b
 case false =>
  obtain rfl:k=true:=by rw [<-HK.out]; unfold qc8; rw [HA.out,HB.out]; rfl
  go_wp2
  go_ret
  exact⟨rfl,(lz j8 j12)⟩
 have pp:v11.cell? ⟨g1,0,none⟩=some (.pointer (some ⟨g,0,none⟩)):=cell_of_row v11 g1 0 _ _ _ (qaa bp (lz j8 j12) h1)
 go_wp2_with fail
 refine (qcl (qmj v11 g v (qaa bo (lz j8 j12) h2) c HC.out)).mono ?_
 rintro e' v13 ⟨rfl,j14⟩
 try clear hw
 clear pp
 cases c
 case false =>
  obtain rfl:k=true:=by rw [<-HK.out]; unfold qc8; rw [HA.out,HB.out,HC.out]; rfl
  go_wp2
  go_ret
  exact⟨rfl,(lz j8 (lz j12 j14))⟩
 obtain rfl:k=false:=by rw [<-HK.out]; unfold qc8; rw [HA.out,HB.out,HC.out]; rfl
 go_wp2
 go_ret
 exact⟨rfl,(lz j8 (lz j12 j14))⟩
theorem qso(w:World)(g1 g:Nat)(v:Nv)(h1:g1 < w.heap.size)(h2:g < w.heap.size)(bp:qhy w g1 g)(bo:qak 107 w g v)(hR:NRows w 0 w.heap.size v)(k:Bool)(hk:qem v=k) :
  Calls Tryz.prog 120 #[.pointer (some ⟨g1,0,none⟩)] w fun e w'=>e=.returned (.bool k)/\Below w.heap.size w w':=by
 have HK:=Lib.hid hk
 clear hk
 obtain⟨a,ha⟩:∃ a,qc3 v.hs=a:=⟨_,rfl⟩
 obtain⟨b,hb⟩:∃ b,timersC v.ts=b:=⟨_,rfl⟩
 have HA:=Lib.hid ha
 have HB:=Lib.hid hb
 clear ha hb
 go_enter Tryz.func120,Tryz.ntmps120
 have pp:w.cell? ⟨g1,0,none⟩=some (.pointer (some ⟨g,0,none⟩)):=cell_of_row w g1 0 _ _ _ bp
 have c27:w.cell? ⟨g,27,none⟩=some (.slice v.hA v.hn v.hc):=qak.at_ bo 27 _ rfl
 go_wp2_with fail
 refine (qcl (qpj w 0 w.heap.size v.hA v.hn v.hc v.hs hR.H a HA.out)).mono ?_
 rintro e' v15 ⟨rfl,j16⟩
 try clear hw
 clear pp c27
 obtain⟨a0,ha0⟩:∃ b,(a != 0)=b:=⟨_,rfl⟩
 have HA0:Hid (decide (qc3 v.hs≠0)=a0):=Lib.hid (by rw [HA.out,<-ha0]; exact (qda _ _).symm)
 cases a0
 case true =>
  obtain rfl:k=true:=by rw [<-HK.out]; unfold qem; rw [HA0.out]; rfl
  go_wp2
  go_ret
  exact⟨rfl,j16⟩
 have pp:v15.cell? ⟨g1,0,none⟩=some (.pointer (some ⟨g,0,none⟩)):=cell_of_row v15 g1 0 _ _ _ (qaa bp j16 h1)
 have c32:v15.cell? ⟨g,32,none⟩=some (.slice v.tA v.tn v.tc):=qak.at_ (qaa bo j16 h2) 32 _ rfl
 go_wp2_with fail
 refine (NoT.TimerChk_any v15 0 v15.heap.size v.tA v.tn v.tc v.ts (NRows.on hR j16).T (Nat.le_refl _) b HB.out).mono ?_
 rintro e' v17 ⟨rfl,j18⟩
 try clear hw
 clear pp c32
 obtain⟨b0,hb0⟩:∃ c,(b != 0)=c:=⟨_,rfl⟩
 have HB0:Hid (decide (timersC v.ts≠0)=b0):=Lib.hid (by rw [HB.out,<-hb0]; exact (qda _ _).symm)
 obtain rfl:k=b0:=by rw [<-HK.out]; unfold qem; rw [HA0.out,HB0.out]; rfl
 go_wp2
 go_ret
 exact⟨rfl,(lz j16 j18)⟩
theorem qsn(w:World)(g1 g:Nat)(v:Nv)(h1:g1 < w.heap.size)(h2:g < w.heap.size)(bp:qhy w g1 g)(bo:qak 107 w g v)(hR:NRows w 0 w.heap.size v)(k:Bool)(hk:qel v=k) :
  Calls Tryz.prog 123 #[.pointer (some ⟨g1,0,none⟩)] w fun e w'=>e=.returned (.bool k)/\Below w.heap.size w w':=by
 have HK:=Lib.hid hk
 clear hk
 obtain⟨a,ha⟩:∃ a,mayC v.own v.cap v.ds=a:=⟨_,rfl⟩
 obtain⟨b,hb⟩:∃ b,(v.own != v.id)=b:=⟨_,rfl⟩
 have HA:=Lib.hid ha
 have HB:Hid (decide (v.own≠v.id)=b):=Lib.hid (by rw [<-hb]; exact (qda _ _).symm)
 clear ha
 go_enter Tryz.func123,Tryz.ntmps123
 go_upto_region 1 with fail
 try clear hw
 refine zB (qan w) [] 22 ?_
 have j20:Below w.heap.size w w.drew:=(Below.refl _ _).drew
 generalize w.drew=v19 at *
 have kpy21:qan w v19:=fun p hp=>Below.block j20 p hp
 refine zD 0 (.pointer (some ⟨g,0,none⟩)) rfl ?y21 ?z22
 case y21 =>
  intro w' h_
  have k_:w'.cell? ⟨g1,0,none⟩=some (.pointer (some ⟨g,0,none⟩)):=cell_of_row w' g1 0 _ _ _ ((h_ _ h1).trans bp)
  go_simp
 try simp only [Act.put,zp]
 refine zM 3 [1,2,3] ?_ ?_
 have kpy23:qan w v19:=fun p hp=>Below.block j20 p hp
 refine zD 4 (.agg #[.int .i64 v.own,.int .i64 v.cap,.slice v.dA v.dn v.dc]) rfl ?y23 ?z24
 case y23 =>
  intro w' h_
  exact Ma.run_load_op 59 (.tmp 5) rfl g 28 rfl (qvv v) _ (qak.cache (t:=107) ((h_ _ h2).trans bo)) Tryz.underlying59 rfl (by kernel_rfl)
 try simp only [Act.put,zp]
 refine zK 5 rfl fun K hK=>?_
 go_simp
 go_at_call 124
 refine ((De.CheckC_any v19 v.own v.cap v.dA v.dn v.dc v.ds (NRows.on hR j20).D (if a=true then 0 else 8) (by rw [HA.out])).mono (fun _ _ h=>And.intro h.1 h.2.1)).mono ?_
 rintro e' v25 ⟨rfl,j26⟩
 refine hK _ _ ⟨fun _ _=>fun p hp=>Below.block (lz j20 j26) p hp,?_⟩
 clear hK K
 try simp only [Act.put,zp]
 cases a
 . refine zM 2 [6,7] ?_ ?_
   refine zS 12 [8,9,10,11,12,13,14,15,16,17,18,19] ?_ ?_
   refine zM 2 [20,21] ?_ ?_
   refine qa2 (by kernel_rfl) ?_ _
   obtain rfl:k=true:=by rw [<-HK.out]; unfold qel; rw [HA.out]; rfl
   go_wp2
   go_ret
   exact⟨rfl,(lz j20 j26)⟩
 skip
 refine zM 2 [6,7] ?_ ?_
 have kpy27:qan w v25:=fun p hp=>Below.block (lz j20 j26) p hp
 refine zD 8 (.pointer (some ⟨g,0,none⟩)) rfl ?y27 ?z28
 case y27 =>
  intro w' h_
  have k_:w'.cell? ⟨g1,0,none⟩=some (.pointer (some ⟨g,0,none⟩)):=cell_of_row w' g1 0 _ _ _ ((h_ _ h1).trans bp)
  go_simp
 try simp only [Act.put,zp]
 refine zM 4 [9,10,11,12] ?_ ?_
 have kpy29:qan w v25:=fun p hp=>Below.block (lz j20 j26) p hp
 refine zD 13 (.int .i64 v.own) rfl ?y29 ?z30
 case y29 =>
  intro w' h_
  have k_:w'.cell? ⟨g,28,none⟩=some (.int .i64 v.own):=qak.at_ (t:=107) ((h_ _ h2).trans bo) 28 _ rfl
  go_simp
 try simp only [Act.put,zp]
 have kpy31:qan w v25:=fun p hp=>Below.block (lz j20 j26) p hp
 refine zD 14 (.pointer (some ⟨g,0,none⟩)) rfl ?y31 ?z32
 case y31 =>
  intro w' h_
  have k_:w'.cell? ⟨g1,0,none⟩=some (.pointer (some ⟨g,0,none⟩)):=cell_of_row w' g1 0 _ _ _ ((h_ _ h1).trans bp)
  go_simp
 try simp only [Act.put,zp]
 refine zM 3 [15,16,17] ?_ ?_
 have kpy33:qan w v25:=fun p hp=>Below.block (lz j20 j26) p hp
 refine zD 18 (.int .i64 v.id) rfl ?y33 ?z34
 case y33 =>
  intro w' h_
  have k_:w'.cell? ⟨g,0,none⟩=some (.int .i64 v.id):=qak.at_ (t:=107) ((h_ _ h2).trans bo) 0 _ rfl
  go_simp
 try simp only [Act.put,zp]
 refine zM 3 [19,20,21] ?_ ?_
 refine qa2 (by kernel_rfl) ?_ _
 obtain rfl:k=b:=by rw [<-HK.out]; unfold qel; rw [HA.out,HB.out]; rfl
 go_wp2
 go_ret
 exact⟨rfl,(lz j20 j26)⟩
theorem qsm(w:World)(g1 g:Nat)(v:Nv)(h1:g1 < w.heap.size)(h2:g < w.heap.size)(bp:qhy w g1 g)(bo:qak 107 w g v)(hR:NRows w 0 w.heap.size v)(k:Bool)(hk:qd2 v=k) :
  Calls Tryz.prog 125 #[.pointer (some ⟨g1,0,none⟩)] w fun e w'=>e=.returned (.bool k)/\Below w.heap.size w w':=by
 have HK:=Lib.hid hk
 clear hk
 obtain⟨a,ha⟩:∃ a,qbo v.fn v.fs=a:=⟨_,rfl⟩
 have HA:=Lib.hid ha
 clear ha
 go_enter Tryz.func125,Tryz.ntmps125
 have pp:w.cell? ⟨g1,0,none⟩=some (.pointer (some ⟨g,0,none⟩)):=cell_of_row w g1 0 _ _ _ bp
 have c31:w.cell? ⟨g,31,none⟩=some (.slice v.fA v.fn v.fc):=qak.at_ bo 31 _ rfl
 go_wp2_with fail
 refine (Ma.CheckF_any w v.fA v.fn v.fc v.fs hR.F a HA.out).mono ?_
 rintro e' v35 ⟨rfl,j36⟩
 try clear hw
 clear pp c31
 obtain⟨a0,ha0⟩:∃ b,(a != 0)=b:=⟨_,rfl⟩
 have HA0:Hid (decide (qbo v.fn v.fs≠0)=a0):=Lib.hid (by rw [HA.out,<-ha0]; exact (qda _ _).symm)
 obtain rfl:k=a0:=by rw [<-HK.out]; unfold qd2; rw [HA0.out]
 go_wp2
 go_ret
 exact⟨rfl,j36⟩
theorem qsl(w:World)(g1 g:Nat)(v:Nv)(bp:qhy w g1 g)(bo:qak 107 w g v)(hR:NRows w 0 w.heap.size v)(k:Bool)(hk:qd1 v=k) :
  Calls Tryz.prog 127 #[.pointer (some ⟨g1,0,none⟩)] w fun e w'=>e=.returned (.bool k)/\Below w.heap.size w w':=by
 have HK:=Lib.hid hk
 have pp:w.cell? ⟨g1,0,none⟩=some (.pointer (some ⟨g,0,none⟩)):=cell_of_row w g1 0 _ _ _ bp
 have c6:w.cell? ⟨g,6,none⟩=some (.int .i64 v.ke):=qak.at_ bo 6 _ rfl
 have c31:w.cell? ⟨g,31,none⟩=some (.slice v.fA v.fn v.fc):=qak.at_ bo 31 _ rfl
 have HL:=Lib.hid hR.F.len
 have hbig:=hR.F.big
 clear hk
 by_cases h0:0 < v.fn
 . obtain⟨b,o_,hA,_,_,hc⟩:=hR.F.row h0
   have hlt:v.fn-1 < v.fs.length:=by rw [HL.out]; omega
   have ce:=(hc (v.fn-1) hlt).1
   have hle:Hid (qe1 v=(v.fs[v.fn-1]'hlt).e):=Lib.hid (by unfold qe1; rw [List.getElem?_eq_getElem hlt]; rfl)
   have hks:IntKind.i64.wrap ((v.fn:Int)-1)=((v.fn-1:Nat):Int):=by rw [IntKind.wrap_i64]; omega
   have hkq:(((v.fn-1:Nat):Int)) < v.fn:=by omega
   have hkr:(0:Int)<=((v.fn-1:Nat):Int):=by omega
   generalize (v.fs[v.fn-1]'hlt).e=E at ce hle
   clear hc hlt
   rw [hA] at c31
   generalize hkk:v.fn-1=q at *
   have hdk:k=decide (v.ke<=E):=by
    have h:=HK.out
    rw [<-h]
    unfold qd1
    rw [hle.out,decide_eq_true h0]
    rfl
   have HKd:=Lib.hid hdk
   clear hdk
   go_enter Tryz.func127,Tryz.ntmps127
   go_wp2
   go_quiet (fail)
   go_wp2
   go_ret
   exact⟨by rw [HKd.out]; rfl,qa0 _ _ _⟩
 have hd:=decide_eq_false h0
 obtain rfl:k=false:=by
  have h:=HK.out
  rw [<-h]
  unfold qd1
  rw [hd]
  rfl
 go_enter Tryz.func127,Tryz.ntmps127
 go_wp2
 go_quiet (fail)
 go_wp2
 go_ret
 exact⟨rfl,qa0 _ _ _⟩
end No
end Go.Proofs.YtmbppgjhdcmckaaGreatDoor
namespace Go.Proofs.YtmbppgjhdcmckaaGreatDoor
open Go.RowKit Go.Sort Go.Shelf
namespace De
theorem box33{w w1:World}{x y z x' y' z':Value}{t t':TypeId}(hb:Below ((w.alloc (.cells #[x,y,z] t)).alloc (.cells #[x',y',z'] t')).heap.size ((w.alloc (.cells #[x,y,z] t)).alloc (.cells #[x',y',z'] t')) w1) :
  (w1.cell? ⟨w.heap.size,0,none⟩=some x/\w1.cell? ⟨w.heap.size,1,none⟩=some y/\w1.cell? ⟨w.heap.size,2,none⟩=some z) /\
  w1.heap[w.heap.size+1]? = some (.cells #[x',y',z'] t' (0,0))/\w.heap.size+1 < w1.heap.size/\Below w.heap.size w w1:=by
 have hs:=hb.size
 simp at hs
 refine⟨⟨?_,?_,?_⟩,?_,by omega,(((Below.refl w.heap.size w).alloc (Nat.le_refl _) _).alloc (by simp) _).trans (hb.mono (by simp; omega))⟩
 . rw [hb.cell (by simp; omega)]
   simp [go_sem]
 . rw [hb.cell (by simp; omega)]
   simp [go_sem]
 . rw [hb.cell (by simp; omega)]
   simp [go_sem]
 rw [hb.block _ (by simp)]
 exact qa7 _ _ _ (by simp)
theorem q1v{w:World}{g:Nat}{x y z:Value}{t:TypeId}(h:w.heap[g]? = some (.cells #[x,y,z] t (0,0))) :
  (w.cell? ⟨g,0,none⟩=some x/\w.cell? ⟨g,1,none⟩=some y/\w.cell? ⟨g,2,none⟩=some z)/\(w.frozen? ⟨g,0,none⟩=false/\w.frozen? ⟨g,1,none⟩=false/\w.frozen? ⟨g,2,none⟩=false) :=
 ⟨⟨cell_of_row w g 0 _ t _ h,cell_of_row w g 1 _ t _ h,cell_of_row w g 2 _ t _ h⟩,frozen_of_row w g 0 _ t h,frozen_of_row w g 1 _ t h,frozen_of_row w g 2 _ t h⟩
theorem qlj{w:World}{base g:Nat}{t:TypeId}{x y:Int}(h:w.heap[g]? = some (.cells #[.int .i64 x,.int .i64 y] t (0,0)))(hb:base<=g):w.ownsRow base t 2 (.slice (some ⟨g,0,none⟩) 1 1) 1 (qbe [(x,y)]) :=
 ⟨rfl,.inr ⟨g,1,_,rfl,hb,h,by simp,by simp [maxLen],by simp,by simp [qbe]⟩⟩
def sameC(o1 p1:Int)(xs:List (Int×Int))(o2 p2:Int)(ys:List (Int×Int)):Bool:=o1==o2 && (p1==p2 && Sm xs ys)
theorem SameC_any(w:World)(o1 p1 o2 p2:Int)(lo hi lo' hi':Nat)(A A':Option Addr)(n c n' c':Nat)(xs ys:List (Int×Int))(hX:Descs w lo hi A n xs)(hY:Descs w lo' hi' A' n' ys)(hhi:hi<=w.heap.size)(hhi':hi'<=w.heap.size)(r:Bool)(hr:sameC o1 p1 xs o2 p2 ys=r) :
  Calls Tryz.prog 111 #[.agg #[.int .i64 o1,.int .i64 p1,.slice A n c],.agg #[.int .i64 o2,.int .i64 p2,.slice A' n' c']] w fun e w'=>e=.returned (.bool r)/\Below w.heap.size w w':=by
 have HR:=Lib.hid hr
 have fin:=((Below.refl w.heap.size w).alloc (Nat.le_refl _) (.cells #[.int .i64 o1,.int .i64 p1,.slice A n c] 59)).alloc (by simp) (.cells #[.int .i64 o2,.int .i64 p2,.slice A' n' c'] 59)
 have hX2:=(hX.alloc hhi (.cells #[.int .i64 o1,.int .i64 p1,.slice A n c] 59)).alloc (by simp; omega) (.cells #[.int .i64 o2,.int .i64 p2,.slice A' n' c'] 59)
 have hY2:=(hY.alloc hhi' (.cells #[.int .i64 o1,.int .i64 p1,.slice A n c] 59)).alloc (by simp; omega) (.cells #[.int .i64 o2,.int .i64 p2,.slice A' n' c'] 59)
 clear hr
 by_cases h1:o1=o2
 . subst h1
   by_cases h2:p1=p2
   . subst h2
     have hs:Sm xs ys=r:=by rw [<-HR.out]; simp [sameC]
     have HS:=Lib.hid hs
     clear hs
     go_enter Tryz.func111,Tryz.ntmps111
     go_wp2_with fail
     refine (qzg _ _ _ _ _ A A' n c n' c' xs ys hX2 hY2 r HS.out).mono ?_
     rintro e w1 ⟨rfl,hb⟩
     have hf:=fin.trans (hb.mono (by simp; omega))
     clear hb
     go_wp2
     go_ret
     exact⟨rfl,hf⟩
   have e:r=false:=by rw [<-HR.out]; simp [sameC,h2]
   subst e
   have h2':(p1==p2)=false:=by simpa using h2
   go_enter Tryz.func111,Tryz.ntmps111
   go_wp2
   go_ret
   exact⟨rfl,fin⟩
 have e:r=false:=by rw [<-HR.out]; simp [sameC,h1]
 subst e
 have h1':(o1==o2)=false:=by simpa using h1
 go_enter Tryz.func111,Tryz.ntmps111
 go_wp2
 go_ret
 exact⟨rfl,fin⟩
end De
end Go.Proofs.YtmbppgjhdcmckaaGreatDoor
namespace Go.Proofs.YtmbppgjhdcmckaaGreatDoor
open Go.RowKit Go.Sort Go.Shelf
namespace De
attribute [local go_sem] Oper.semAt_some
theorem qaw{W:World}{g:Nat}{o:Obj}(h:W.heap[g]? = some o):g < W.heap.size:=(Array.getElem?_eq_some_iff.1 h).1
end De
end Go.Proofs.YtmbppgjhdcmckaaGreatDoor
namespace Go.Proofs.YtmbppgjhdcmckaaGreatDoor
open Go.RowKit Go.Sort Go.Shelf
namespace De
attribute [local go_sem] Oper.semAt_some
theorem qb1{w:World}{g:Nat}{x:Value}{t:TypeId}(h:w.heap[g]? = some (.cells #[x] t (0,0))):w.cell? ⟨g,0,none⟩=some x/\w.frozen? ⟨g,0,none⟩=false :=
 ⟨cell_of_row w g 0 _ t _ h,frozen_of_row w g 0 _ t h⟩
theorem qcx{W W':World}{row:Option Nat}{g:Nat}{cs:Array Value}{t:TypeId}{z:Nat×Nat}(h:W.heap[g]? = some (.cells cs t z))(hg:W.grownBy W' row)(hr:∀ r,row=some r->∃ o:Obj,W.heap[r]? = some o/\o.isCells=false):W'.heap[g]? = some (.cells cs t z):=by
 refine (hg.block g (qaw h) (fun e=>?_)).trans h
 obtain⟨o,h1,h2⟩:=hr g e.symm
 rw [h] at h1
 cases h1
 cases h2
theorem qb6{W W':World}{row:Option Nat}{g gl:Nat}{o:Obj}(h:W.heap[g]? = some o)(hg:W.grownBy W' row)(hr:∀ r,row=some r->r=gl)(hne:g≠gl):W'.heap[g]? = some o :=
 (hg.block g (qaw h) (fun e=>hne (hr g e.symm))).trans h
theorem qcu{W0 W W':World}{B gl:Nat}{row:Option Nat}(h:Below B W0 W)(hB:B<=W0.heap.size)(hg:W.grownBy W' row)(hr:∀ r,row=some r->r=gl)(hle:B<=gl):Below B W0 W' :=
 h.grown hg (Nat.le_trans hB h.size) (fun k e=>by have:=hr k e; omega)
end De
end Go.Proofs.YtmbppgjhdcmckaaGreatDoor
namespace Go.Proofs.YtmbppgjhdcmckaaGreatDoor
open Go.RowKit Go.Sort Go.Shelf
namespace De
theorem Sm_refl(xs:List (Int×Int)):Sm xs xs=true:=beq_self_eq_true _
theorem qon(own:Int)(l:List D)(x:D):qbm own (l++[x])=qbm own l++(if x.1=own then [] else [x]):=by
 unfold qbm
 rw [List.filter_append]
 by_cases h:x.1=own
 . simp [h]
 simp [h]
theorem qpq(w:World)(lo hi:Nat)(A:Option Addr)(n c:Nat)(xs:List (Int×Int))(hX:Descs w lo hi A n xs)(hhi:hi<=w.heap.size)(own:Int)(hn:n<=1000000) :
  Calls Tryz.prog 160 #[.slice A n c,.int .i64 own] w fun e w'=>∃ A' n' c',e=.returned (.slice A' n' c')/\n'<=c'/\n'<=n/\Below w.heap.size w w'/\Descs w' w.heap.size w'.heap.size A' n' (qbm own xs):=by
 have hlen:=Lib.hid hX.len
 have hwf:=Lib.hid hX.wf
 obtain⟨i0,hi0,hz0,hz1,hz2⟩:=info_parts Tryz.info195
 go_enter Tryz.func160,Tryz.ntmps160
 go_wp2
 go_loopw [5,6] (fun ov iv wr=>∃ k m:Nat,iv=.int .i64 k/\k<=n/\m<=k/\wr.ownsRow w.heap.size 195 2 ov m (qbe (qbm own (xs.take k)))/\Below w.heap.size w wr) (fun _ iv _=>n-(intOf iv).toNat)
 case atStart=>exact⟨0,0,rfl,Nat.zero_le _,Nat.le_refl _,World.ownsRow_nil ..,Below.refl _ _⟩
 obtain⟨k,m,rfl,hk,hmk,hown,hb⟩:=hrel
 obtain⟨Ao,co,rfl,hoc,_⟩:=qbb hown
 by_cases hlt:k < n
 . obtain⟨b,off,rfl,h1,h2,hcell⟩:=(hX.below hb hhi).row (by omega)
   obtain⟨⟨g1,_⟩,g3,_⟩:=hcell k hlt
   have hts:Hid (xs.take (k+1)=xs.take k++[xs[k]?.getD (0,0)]):=by
    rw [Hid,List.take_succ_eq_append_getElem (by rw [hlen.out]; exact hlt),List.getElem?_eq_getElem (by rw [hlen.out]; exact hlt)]
    rfl
   generalize xs[k]?.getD (0,0)=x at g1 g3 hts
   have hos:=Lib.hid (qon own (xs.take k) x)
   rw [<-hts.out] at hos
   obtain⟨x1,x2⟩:=x
   simp only at g1 g3
   have hsb:=hb.size
   clear hcell
   by_cases he:x1=own
   . subst he
     have hne:(x1 != x1)=false:=by simp
     have ho2:Hid (qbm x1 (xs.take (k+1))=qbm x1 (xs.take k)):=by
      have:=hos.out
      rw [if_pos rfl,List.append_nil] at this
      exact this
     go_wp2
     go_roundw
     case rel=>exact⟨k+1,m,by go_num,by omega,by omega,by rw [ho2.out]; exact hown,hb⟩
     case measure=>simp [intOf]; omega
   have hne:(x1 != own)=true:=by simpa using he
   have ho2:Hid (qbe (qbm own (xs.take (k+1)))=qbe (qbm own (xs.take k))++qbe [(x1,x2)]):=by
    have:=hos.out
    rw [if_neg he] at this
    rw [Hid,this,qbn]
   go_wp2_with (first
    | (at_builtin; refine qag _ rfl (.tmp 20) (.tmp 25) 57 rfl w.heap.size 195 i0 _ 2 16 Tryz.underlying57 hi0 hz0 hz1 hz2 rfl (by decide) _ _ _ rfl (hown.alloc _) _ _ _ 1 1 (qbe [(x1,x2)]) rfl (qgk _ _ (x1,x2) 195 (qa7 _ _ _ rfl)) (flatD_one _) (by unfold maxLen; omega) (by omega) (by simp; omega) ?_))
   intro A3 c3 w3 hown3 hg3 _
   rw [<-ho2.out] at hown3
   have hb3:=(hb.alloc hsb (.cells #[.int .i64 x1,.int .i64 x2] 195)).grown hg3 (by simp; omega) (fun q hq=>(hown.lt q hq).1)
   clear hown
   go_wp2
   go_roundw
   case rel=>exact⟨k+1,m+1,by go_num,by omega,by omega,hown3,hb3⟩
   case measure=>simp [intOf]; omega
 obtain rfl:k=n:=by omega
 have he:Hid (xs.take k=xs):=List.take_of_length_le (by rw [hlen.out]; exact Nat.le_refl _)
 rw [he.out] at hown
 have hD:=Descs.of_own hown (fun x hx=>hwf.out x (qry.1 hx).1) (by omega)
 clear hown
 go_wp2
 go_ret
 exact⟨Ao,m,co,rfl,hoc,hmk,hb,hD⟩
theorem qiw(w:World)(own cap:Int)(x y r:Int)(hr:qm6 own cap=((x,y),r)) :
  Calls Tryz.prog 156 #[.int .i64 own,.int .i64 cap] w fun e w'=>e=.returned (.tuple #[.agg #[.int .i64 x,.int .i64 y,.slice none 0 0],.int .i64 r])/\Gr w w':=by
 have HR:=Lib.hid hr
 clear hr
 have bad:qlo own cap=false->x=0/\y=0/\r=2:=fun h=>by
  have e:((x,y),r)=(((0:Int),(0:Int)),(2:Int)):=by rw [<-HR.out,qm6,if_neg (by simp [h])]
  obtain⟨e1,e2⟩:=Prod.mk.inj e
  obtain⟨e3,e4⟩:=Prod.mk.inj e1
  exact⟨e3,e4,e2⟩
 have hbad:=Lib.hid bad
 clear bad
 by_cases h1:0<=own
 . by_cases h2:own < 8
   . by_cases h3:1<=cap
     . by_cases h4:cap<=6
       . have e:((x,y),r)=((own,cap),(0:Int)):=by rw [<-HR.out,qm6,if_pos ((qcd own cap).2 ⟨h1,h2,h3,h4⟩)]
         obtain⟨e1,rfl⟩:=Prod.mk.inj e
         obtain⟨rfl,rfl⟩:=Prod.mk.inj e1
         clear e e1 HR hbad
         go_enter Tryz.func156,Tryz.ntmps156
         go_wp2
         exact bodyPost_ret (v:=.tuple #[.agg #[.int .i64 x,.int .i64 y,.slice none 0 0],.int .i64 0]) (by simp [results,Tryz.results156,go_sem]) rfl ⟨rfl,Gr.alloc (Gr.refl _) _⟩
       obtain⟨rfl,rfl,rfl⟩:=hbad.out (Bool.eq_false_iff.2 fun h=>by have:=(qcd own cap).1 h; omega)
       go_enter Tryz.func156,Tryz.ntmps156
       go_wp2
       exact bodyPost_ret (v:=.tuple #[.agg #[.int .i64 0,.int .i64 0,.slice none 0 0],.int .i64 2]) (by simp [results,Tryz.results156,go_sem]) rfl ⟨rfl,Gr.alloc (Gr.refl _) _⟩
     obtain⟨rfl,rfl,rfl⟩:=hbad.out (Bool.eq_false_iff.2 fun h=>by have:=(qcd own cap).1 h; omega)
     go_enter Tryz.func156,Tryz.ntmps156
     go_wp2
     exact bodyPost_ret (v:=.tuple #[.agg #[.int .i64 0,.int .i64 0,.slice none 0 0],.int .i64 2]) (by simp [results,Tryz.results156,go_sem]) rfl ⟨rfl,Gr.alloc (Gr.refl _) _⟩
   obtain⟨rfl,rfl,rfl⟩:=hbad.out (Bool.eq_false_iff.2 fun h=>by have:=(qcd own cap).1 h; omega)
   go_enter Tryz.func156,Tryz.ntmps156
   go_wp2
   exact bodyPost_ret (v:=.tuple #[.agg #[.int .i64 0,.int .i64 0,.slice none 0 0],.int .i64 2]) (by simp [results,Tryz.results156,go_sem]) rfl ⟨rfl,Gr.alloc (Gr.refl _) _⟩
 obtain⟨rfl,rfl,rfl⟩:=hbad.out (Bool.eq_false_iff.2 fun h=>by have:=(qcd own cap).1 h; omega)
 go_enter Tryz.func156,Tryz.ntmps156
 go_wp2
 exact bodyPost_ret (v:=.tuple #[.agg #[.int .i64 0,.int .i64 0,.slice none 0 0],.int .i64 2]) (by simp [results,Tryz.results156,go_sem]) rfl ⟨rfl,Gr.alloc (Gr.refl _) _⟩
theorem MayR_any(w:World)(own cap:Int)(A:Option Addr)(n c:Nat)(xs:List (Int×Int))(hX:Descs w 0 w.heap.size A n xs)(hn:n<=1000000)(b:Bool)(hb:mayC own cap xs=b) :
  Calls Tryz.prog 104 #[.agg #[.int .i64 own,.int .i64 cap,.slice A n c]] w fun e w'=>e=.returned (.bool b)/\Below w.heap.size w w'/\0 < w'.heap.size:=by
 have HB:=Lib.hid hb
 have HL:=Lib.hid hX.len
 have hbig:=hX.big
 have mixed:Tryz.prog.follows .mixedOrders=true:=by kernel_rfl
 clear hb
 by_cases h1:qlo own cap=true
 . have HN:=Lib.hid (show qm6 own cap=((own,cap),0) by rw [qm6,if_pos h1])
   have H1:=Lib.hid h1
   clear h1
   by_cases h2:(n:Int)<=cap
   . have h2':decide (cap < (n:Int))=false:=by simp; exact h2
     by_cases h3:qct xs=0
     . have hbb:Hid (Sm xs (qdw [] (srt (qbm own xs)))=b):=by
         rw [Hid,<-HB.out,mayC,H1.out,h3,HL.out]
         have:decide ((n:Int)<=cap)=true:=by simpa using h2
         rw [this]
         unfold Sm qyl
         simp only [Bool.true_and,beq_self_eq_true]
         rw [Bool.eq_iff_iff,beq_iff_eq,beq_iff_eq]
         exact eq_comm
       have H3:=Lib.hid h3
       clear h3
       go_enter Tryz.func104,Tryz.ntmps104
       go_wp2_with fail
       refine (qiw _ own cap own cap 0 HN.out).mono ?_
       rintro e w1 ⟨rfl,hg1⟩
       obtain⟨⟨k1,k2,k3⟩,hs1,hb1⟩:=q0u hg1.below
       have hX1:=hX.below hb1 (Nat.le_refl _)
       have k1a:∀ o,(w1.alloc o).cell? ⟨w.heap.size,0,none⟩=some (.int .i64 own):=fun o=>(World.cell?_alloc_lt _ _ _ (show w.heap.size < w1.heap.size by omega)).trans k1
       have k2a:∀ o,(w1.alloc o).cell? ⟨w.heap.size,1,none⟩=some (.int .i64 cap):=fun o=>(World.cell?_alloc_lt _ _ _ (show w.heap.size < w1.heap.size by omega)).trans k2
       have k3a:∀ o,(w1.alloc o).cell? ⟨w.heap.size,2,none⟩=some (.slice A n c):=fun o=>(World.cell?_alloc_lt _ _ _ (show w.heap.size < w1.heap.size by omega)).trans k3
       clear hg1
       go_wp2_with fail
       refine (qrc _ _ _ A n c xs (hX1.alloc (by omega) _) (by simp; omega) 0 H3.out).mono ?_
       rintro e w2 ⟨rfl,hg2⟩
       have hb2:=hg2.below
       have hs2:=hb2.size
       simp at hs2
       have hc2:=(hb1.alloc (by omega) _).trans (hb2.mono (by simp; omega))
       have X2:=hX.below hc2 (Nat.le_refl _)
       have p1:=Below.keepCell hb2 (show w.heap.size < _ by simp; omega) (k1a _)
       have p3:=Below.keepCell hb2 (show w.heap.size < _ by simp; omega) (k3a _)
       have hXd:Descs w2.drew 0 w2.drew.heap.size A n xs:=(X2.drewN 1).more (Nat.le_refl _) (by show _<=w2.heap.size; omega)
       have HXd:=Lib.hid hXd
       have hsd:w2.heap.size<=w2.drew.heap.size:=Nat.le_refl _
       have hcd:Below w.heap.size w w2.drew:=hc2.drew
       have hg0:w.heap.size < w2.drew.heap.size:=by omega
       clear hb1 hX1 k1 k2 k3 k1a k2a k3a hg2 hb2 hXd X2
       go_wp2_with fail
       go_region_held3 (fun w'=>w'.cell? ⟨w.heap.size,0,none⟩=some (.int .i64 own)/\w'.cell? ⟨w.heap.size,2,none⟩=some (.slice A n c))
        (first | go_keep | (go_split_ands; exact⟨s1,s2⟩) | fail)
        (first
         | (go_at_call 160; refine Calls.mono (qpq _ _ _ A n c xs HXd.out (Nat.le_refl _) own hn) ?_; rintro e u1 ⟨A1,n1,c1,rfl,hc1,hn1,hb1,hD1⟩; have s1:=Below.keepCell hb1 hg0 p1; have s2:=Below.keepCell hb1 hg0 p3; have hz1:=hb1.size; have hcu:=hcd.trans (hb1.mono (by omega)))
         | (go_at_call 159; refine Calls.mono (qph _ _ _ A1 n1 c1 _ hD1 (Nat.le_refl _) (by omega)) ?_; rintro e u2 ⟨A2,c2,rfl,hc2',hb2,hD2⟩; have s1:=Below.keepCell hb2 (Nat.lt_of_lt_of_le hg0 hz1) s1; have s2:=Below.keepCell hb2 (Nat.lt_of_lt_of_le hg0 hz1) s2; have hz2:=hb2.size; have hcu2:=hcu.trans (hb2.mono (by omega)))
         | (go_at_call 158; refine Calls.mono (qps _ _ _ A2 n1 c2 _ hD2 (Nat.le_refl _) (by omega)) ?_; rintro e u3 ⟨A3,n3,c3,rfl,hc3,hn3,hb3,hD3⟩; have s1:=Below.keepCell hb3 (show w.heap.size < _ by omega) s1; have s2:=Below.keepCell hb3 (show w.heap.size < _ by omega) s2; have hz3:=hb3.size; have hcu3:=hcu2.trans (hb3.mono (by omega)); have hXf:=hX.below hcu3 (Nat.le_refl _))
         | (go_at_call 108; refine Calls.mono (qwi _ _ _ _ _ A A3 n c n3 c3 xs _ hXf hD3 b hbb.out) ?_; rintro e u4 ⟨rfl,q4,rfl⟩; have s1:(u3.drewN q4).cell? ⟨w.heap.size,0,none⟩=some (.int .i64 own):=s1; have s2:(u3.drewN q4).cell? ⟨w.heap.size,2,none⟩=some (.slice A n c):=s2)
         | (go_at_call 108; fail))
       have hcf:Below w.heap.size w (u3.drewN q4):=qbg hcu3 q4
       have hpf:0 < (u3.drewN q4).heap.size:=by show 0 < u3.heap.size; omega
       generalize u3.drewN q4=W at *
       go_wp2
       go_ret
       exact⟨rfl,hcf,hpf⟩
     obtain⟨q,hq⟩:∃ q,qct xs=q:=⟨_,rfl⟩
     have HQ:=Lib.hid hq
     have hqn:(q != 0)=true:=by simpa using (fun e=>h3 (by rw [hq,e]))
     obtain rfl:b=false:=by
      rw [<-HB.out,Bool.eq_false_iff]
      exact fun h=>h3 ((qfl own cap xs).1 h).chk
     clear hq h3
     go_enter Tryz.func104,Tryz.ntmps104
     go_wp2_with fail
     refine (qiw _ own cap own cap 0 HN.out).mono ?_
     rintro e w1 ⟨rfl,hg1⟩
     obtain⟨⟨k1,k2,k3⟩,hs1,hb1⟩:=q0u hg1.below
     have hX1:=hX.below hb1 (Nat.le_refl _)
     have k2a:∀ o,(w1.alloc o).cell? ⟨w.heap.size,1,none⟩=some (.int .i64 cap):=fun o=>(World.cell?_alloc_lt _ _ _ (show w.heap.size < w1.heap.size by omega)).trans k2
     have k3a:∀ o,(w1.alloc o).cell? ⟨w.heap.size,2,none⟩=some (.slice A n c):=fun o=>(World.cell?_alloc_lt _ _ _ (show w.heap.size < w1.heap.size by omega)).trans k3
     clear hg1
     go_wp2_with fail
     refine (qrc _ _ _ A n c xs (hX1.alloc (by omega) _) (by simp; omega) q HQ.out).mono ?_
     rintro e w2 ⟨rfl,hg2⟩
     have hb2:=hg2.below
     have hs2:=hb2.size
     simp at hs2
     have hc2:=(hb1.alloc (by omega) _).trans (hb2.mono (by simp; omega))
     clear hg2 hb2 k1 k2 k3 k2a k3a
     go_wp2
     go_ret
     exact⟨rfl,hc2,by omega⟩
   have h2':decide (cap < (n:Int))=true:=by simp; omega
   obtain rfl:b=false:=by
    rw [<-HB.out,Bool.eq_false_iff]
    exact fun h=>h2 (by rw [<-HL.out]; exact ((qfl own cap xs).1 h).len)
   go_enter Tryz.func104,Tryz.ntmps104
   go_wp2_with fail
   refine (qiw _ own cap own cap 0 HN.out).mono ?_
   rintro e w1 ⟨rfl,hg1⟩
   obtain⟨⟨k1,k2,k3⟩,hs1,hb1⟩:=q0u hg1.below
   have k2a:∀ o,(w1.alloc o).cell? ⟨w.heap.size,1,none⟩=some (.int .i64 cap):=fun o=>(World.cell?_alloc_lt _ _ _ (show w.heap.size < w1.heap.size by omega)).trans k2
   have k3a:∀ o,(w1.alloc o).cell? ⟨w.heap.size,2,none⟩=some (.slice A n c):=fun o=>(World.cell?_alloc_lt _ _ _ (show w.heap.size < w1.heap.size by omega)).trans k3
   clear hg1
   go_wp2
   go_ret
   exact⟨rfl,hb1.alloc (by omega) _,by simp⟩
 have HN:=Lib.hid (show qm6 own cap=((0,0),2) by rw [qm6,if_neg h1])
 obtain rfl:b=false:=by
  rw [<-HB.out,Bool.eq_false_iff]
  exact fun h=>h1 ((qfl own cap xs).1 h).new
 clear h1
 go_enter Tryz.func104,Tryz.ntmps104
 go_wp2_with fail
 refine (qiw _ own cap 0 0 2 HN.out).mono ?_
 rintro e w1 ⟨rfl,hg1⟩
 obtain⟨⟨k1,k2,k3⟩,hs1,hb1⟩:=q0u hg1.below
 clear hg1
 go_wp2
 go_ret
 exact⟨rfl,hb1.alloc (by omega) _,by simp⟩
end De
end Go.Proofs.YtmbppgjhdcmckaaGreatDoor