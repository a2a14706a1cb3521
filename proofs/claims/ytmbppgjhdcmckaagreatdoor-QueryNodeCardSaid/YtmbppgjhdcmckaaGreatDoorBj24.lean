/- DescTells: the walk. -/
import Derived.Test.YtmbppgjhdcmckaaGreatDoorBj23
set_option maxHeartbeats 102400000
set_option maxRecDepth 100000
namespace Go.Proofs.YtmbppgjhdcmckaaGreatDoor
open Go.RowKit Go.Sort Go.Shelf
namespace De
theorem q2b(w:World)(lo hi lo' hi':Nat)(A A':Option Addr)(n c n' c':Nat)(xs ys:List (Int×Int))(hX:Descs w lo hi A n xs)(hY:Descs w lo' hi' A' n' ys)(r:Bool)(hr:Sm xs ys=r) :
  Calls Tryz.prog 108 #[.slice A n c,.slice A' n' c'] w fun e w'=>e=.returned (.bool r)/\Below w.heap.size w w' :=
 (qwi w lo hi lo' hi' A A' n c n' c' xs ys hX hY r hr).mono fun e w' ⟨he,m,hm⟩=>⟨he,by rw [hm]; exact qa0 _ _ _⟩
theorem SameCR_any(w:World)(o1 p1 o2 p2:Int)(lo hi lo' hi':Nat)(A A':Option Addr)(n c n' c':Nat)(xs ys:List (Int×Int))(hX:Descs w lo hi A n xs)(hY:Descs w lo' hi' A' n' ys)(hhi:hi<=w.heap.size)(hhi':hi'<=w.heap.size)(r:Bool)(hr:sameC o1 p1 xs o2 p2 ys=r) :
  Calls Tryz.prog 58 #[.agg #[.int .i64 o1,.int .i64 p1,.slice A n c],.agg #[.int .i64 o2,.int .i64 p2,.slice A' n' c']] w fun e w'=>e=.returned (.bool r)/\Below w.heap.size w w':=by
 have HR:=Lib.hid hr
 have fin:=((Below.refl w.heap.size w).alloc (Nat.le_refl _) (.cells #[.int .i64 o1,.int .i64 p1,.slice A n c] 59)).alloc (by simp) (.cells #[.int .i64 o2,.int .i64 p2,.slice A' n' c'] 59)
 have hX2:=(hX.alloc hhi (.cells #[.int .i64 o1,.int .i64 p1,.slice A n c] 59)).alloc (by simp; omega) (.cells #[.int .i64 o2,.int .i64 p2,.slice A' n' c'] 59)
 have hY2:=(hY.alloc hhi' (.cells #[.int .i64 o1,.int .i64 p1,.slice A n c] 59)).alloc (by simp; omega) (.cells #[.int .i64 o2,.int .i64 p2,.slice A' n' c'] 59)
 clear hr
 by_cases h1:o1=o2
 . subst h1
   by_cases h2:p1=p2
   . subst h2
     have hs:Sm xs ys=r:=by rw [<-HR.out]; simp [sameC]
     have HS:=Lib.hid hs
     clear hs
     go_enter Tryz.func58,Tryz.ntmps58
     go_wp2_with fail
     refine (q2b _ _ _ _ _ A A' n c n' c' xs ys hX2 hY2 r HS.out).mono ?_
     rintro e w1 ⟨rfl,hb⟩
     have hf:=fin.trans (hb.mono (by simp; omega))
     clear hb
     go_wp2
     go_ret
     exact⟨rfl,hf⟩
   have e:r=false:=by rw [<-HR.out]; simp [sameC,h2]
   subst e
   have h2':(p1==p2)=false:=by simpa using h2
   go_enter Tryz.func58,Tryz.ntmps58
   go_wp2
   go_ret
   exact⟨rfl,fin⟩
 have e:r=false:=by rw [<-HR.out]; simp [sameC,h1]
 subst e
 have h1':(o1==o2)=false:=by simpa using h1
 go_enter Tryz.func58,Tryz.ntmps58
 go_wp2
 go_ret
 exact⟨rfl,fin⟩
theorem TwinCR_any(w:World)(own cap:Int)(lo hi:Nat)(A:Option Addr)(n c:Nat)(xs:List (Int×Int))(hX:Descs w lo hi A n xs)(hhi:hi<=w.heap.size)(hn:n<=1000000) :
  Calls Tryz.prog 53 #[.agg #[.int .i64 own,.int .i64 cap,.slice A n c]] w fun e w'=>∃ A' c',e=.returned (.agg #[.int .i64 own,.int .i64 cap,.slice A' n c'])/\n<=c'/\Below w.heap.size w w'/\w.heap.size < w'.heap.size/\Descs w' (w.heap.size+2) w'.heap.size A' n xs:=by
 obtain⟨i0,hi0,hz0,hz1,hz2⟩:=info_parts Tryz.info195
 have hxw:=Lib.hid hX.wf
 have hbig:=hX.big
 have hX2:=(hX.alloc hhi (.cells #[.int .i64 own,.int .i64 cap,.slice A n c] 59)).alloc (by simp; omega) (.cells #[.int .i64 0,.int .i64 0,.slice none 0 0] 59)
 go_enter Tryz.func53,Tryz.ntmps53
 go_wp2_with (first
  | (at_builtin; refine qag _ rfl (.tmp 3) (.tmp 5) 57 rfl (w.heap.size+1+1) 195 i0 _ 2 16 Tryz.underlying57 hi0 hz0 hz1 hz2 rfl (by decide) _ _ _ rfl (qlk (qa7 _ _ _ (by simp)) (by simp)) _ _ _ n _ _ rfl (hX2.alloc (by simp; omega) _).raw (flatD_one _) (by unfold maxLen; omega) (by omega) (by simp) ?_))
 intro A2 c2 w1 hown1 hgrow1 _
 have hb1:Below ((w.alloc (.cells #[.int .i64 own,.int .i64 cap,.slice A n c] 59)).alloc (.cells #[.int .i64 0,.int .i64 0,.slice none 0 0] 59)).heap.size ((w.alloc (.cells #[.int .i64 own,.int .i64 cap,.slice A n c] 59)).alloc (.cells #[.int .i64 0,.int .i64 0,.slice none 0 0] 59)) w1:=((Below.refl _ _).alloc (Nat.le_refl _) _).grown hgrow1 (by simp) (fun q hq=>by simp [Value.ownBlock] at hq; simp; omega)
 have hc2:=qd0 hown1
 clear hgrow1
 (try simp at hown1)
 have hD:=Descs.of_own hown1 hxw.out hbig
 obtain⟨⟨k1,k2,k3⟩,hk,hs1,hbb⟩:=box33 hb1
 have hkf:w1.frozen? ⟨w.heap.size,2,none⟩=false:=(hb1.frozen (p:=⟨w.heap.size,2,none⟩) (by simp; omega)).trans (by simp [go_sem])
 obtain⟨⟨p1,p2,p3⟩,p4,p5,p6⟩:=q1v hk
 clear hb1 hown1 hk
 go_wp2
 refine bodyPost_ret (v:=.agg #[.int .i64 own,.int .i64 cap,.slice A2 n c2]) (by simp [results,Tryz.results53,go_sem,p1,p2,p3]) rfl ⟨A2,c2,rfl,hc2,?_,?_,?_⟩
 . repeat (refine Below.setCell ?_ (by simp; try omega) _)
   exact hbb
 . simp [World.setCell]
   omega
 refine Descs.more (lo:=w.heap.size+2) (hi:=w1.heap.size) ?_ (Nat.le_refl _) (by simp [World.setCell])
 repeat (refine Descs.far ?_ (by simp; try omega) _)
 exact hD
end De
end Go.Proofs.YtmbppgjhdcmckaaGreatDoor
namespace Go.Proofs.YtmbppgjhdcmckaaGreatDoor
open Go.RowKit
namespace No
open Ma (Pv PRows qbf qcp)
open Dy
open De (sameC)
def qge(a b:Nv):Bool:=a.kl==b.kl && (a.kt==b.kt && (a.ks==b.ks && (a.ke==b.ke && a.kf==b.kf)))
def qgd(a b:Nv):Bool:=a.wo==b.wo && (a.wn==b.wn && a.wt==b.wt)
def qmp(a b:Nv):Bool:=(a.id==b.id) && ((a.val==b.val) && ((a.up==b.up) && (qge a b && (qgd a b && (qbf a.P b.P && (Pa.Sm a.hs b.hs && (sameC a.own a.cap a.ds b.own b.cap b.ds && (qcp a.fs b.fs && De.Sm a.ts b.ts))))))))
theorem qej{P:Program}{F:FuncId}{args:Array Value}{w:World}{v:Value}(h:Calls P F args w fun e w'=>e=.returned v/\∃ m,w'=w.drewN m):Calls P F args w fun e w'=>e=.returned v/\Below w.heap.size w w' :=
 h.mono fun e w' k=>⟨k.1,by obtain⟨m,hm⟩:=k.2; rw [hm]; exact qa0 _ _ _⟩
theorem qy2(w:World)(A A':Option Addr)(n c n' c':Nat)(xs ys:List Int)(hX:qae w 0 w.heap.size .i64 A n xs)(hY:qae w 0 w.heap.size .i64 A' n' ys)(r:Bool)(hr:Pa.Sm xs ys=r) :
  Calls Tryz.prog 110 #[.slice A n c,.slice A' n' c'] w fun e w'=>e=.returned (.bool r)/\Below w.heap.size w w':=qej (qti w 0 _ 0 _ A A' n c n' c' xs ys hX hY r hr)
theorem qy1(w:World)(A A':Option Addr)(n c n' c':Nat)(xs ys:List (Int×Int))(hX:De.Descs w 0 w.heap.size A n xs)(hY:De.Descs w 0 w.heap.size A' n' ys)(r:Bool)(hr:De.Sm xs ys=r) :
  Calls Tryz.prog 113 #[.slice A n c,.slice A' n' c'] w fun e w'=>e=.returned (.bool r)/\Below w.heap.size w w':=qej (NoT.EqualT_any w 0 _ 0 _ A A' n c n' c' xs ys hX hY r hr)
theorem eqlCl(w:World)(a b c d e a' b' c' d' e':Int):(binOp .eql 53 (.agg #[.int .i64 a,.int .i64 b,.int .i64 c,.int .i64 d,.int .i64 e]) (.agg #[.int .i64 a',.int .i64 b',.int .i64 c',.int .i64 d',.int .i64 e'])).run Tryz.prog w=.ok (.bool (a==a' && (b==b' && (c==c' && (d==d' && e==e'))))) w:=by
 have u3:=Tryz.underlying3
 have hS:Tryz.prog.underlying 53=some (.struct (Tryz.prog.fieldsOf 53)):=by kernel_rfl
 have hp:Tryz.prog.stoodInHeld 53=false:=by kernel_rfl
 rw [run_eql_struct,show (10000:Nat)=9999+1 from rfl,run_equalIn_agg w 9999 53 _ _ hS hp]
 simp only [Program.fieldsOf,Tryz.underlying53]
 go_simp
 by_cases h1:a=a'<;>by_cases h2:b=b'<;>by_cases h3:c=c'<;>by_cases h4:d=d'<;>by_cases h5:e=e'<;>simp [h1,h2,h3,h4,h5]
theorem neqCl(w:World)(a b c d e a' b' c' d' e':Int):(binOp .neq 53 (.agg #[.int .i64 a,.int .i64 b,.int .i64 c,.int .i64 d,.int .i64 e]) (.agg #[.int .i64 a',.int .i64 b',.int .i64 c',.int .i64 d',.int .i64 e'])).run Tryz.prog w=.ok (.bool (!(a==a' && (b==b' && (c==c' && (d==d' && e==e')))))) w:=by
 have u3:=Tryz.underlying3
 have hS:Tryz.prog.underlying 53=some (.struct (Tryz.prog.fieldsOf 53)):=by kernel_rfl
 have hp:Tryz.prog.stoodInHeld 53=false:=by kernel_rfl
 rw [run_neq_struct,show (10000:Nat)=9999+1 from rfl,run_equalIn_agg w 9999 53 _ _ hS hp]
 simp only [Program.fieldsOf,Tryz.underlying53]
 go_simp
 by_cases h1:a=a'<;>by_cases h2:b=b'<;>by_cases h3:c=c'<;>by_cases h4:d=d'<;>by_cases h5:e=e'<;>simp [h1,h2,h3,h4,h5]
theorem eqlWt(w:World)(a:Bool)(b c:Int)(a':Bool)(b' c':Int):(binOp .eql 55 (.agg #[.bool a,.int .i64 b,.int .i64 c]) (.agg #[.bool a',.int .i64 b',.int .i64 c'])).run Tryz.prog w=.ok (.bool (a==a' && (b==b' && c==c'))) w:=by
 have u3:=Tryz.underlying3
 have u4:=Tryz.underlying4
 have hS:Tryz.prog.underlying 55=some (.struct (Tryz.prog.fieldsOf 55)):=by kernel_rfl
 have hp:Tryz.prog.stoodInHeld 55=false:=by kernel_rfl
 rw [run_eql_struct,show (10000:Nat)=9999+1 from rfl,run_equalIn_agg w 9999 55 _ _ hS hp]
 simp only [Program.fieldsOf,Tryz.underlying55]
 go_simp
 by_cases h1:a=a'<;>by_cases h2:b=b'<;>by_cases h3:c=c'<;>simp [h1,h2,h3]
theorem neqWt(w:World)(a:Bool)(b c:Int)(a':Bool)(b' c':Int):(binOp .neq 55 (.agg #[.bool a,.int .i64 b,.int .i64 c]) (.agg #[.bool a',.int .i64 b',.int .i64 c'])).run Tryz.prog w=.ok (.bool (!(a==a' && (b==b' && c==c')))) w:=by
 have u3:=Tryz.underlying3
 have u4:=Tryz.underlying4
 have hS:Tryz.prog.underlying 55=some (.struct (Tryz.prog.fieldsOf 55)):=by kernel_rfl
 have hp:Tryz.prog.stoodInHeld 55=false:=by kernel_rfl
 rw [run_neq_struct,show (10000:Nat)=9999+1 from rfl,run_equalIn_agg w 9999 55 _ _ hS hp]
 simp only [Program.fieldsOf,Tryz.underlying55]
 go_simp
 by_cases h1:a=a'<;>by_cases h2:b=b'<;>by_cases h3:c=c'<;>simp [h1,h2,h3]
theorem qun(w:World)(a b:Nv)(hA:NRows w 0 w.heap.size a)(hB:NRows w 0 w.heap.size b)(k:Bool)(hk:qmp a b=k) :
  Calls Tryz.prog 61 #[.agg #[.int .i64 a.id,.int .i64 a.val,.bool a.up,.int .i64 a.kl,.int .i64 a.kt,.int .i64 a.ks,.int .i64 a.ke,.int .i64 a.kf,.bool a.P.M.S.s,.slice a.P.M.S.A a.P.M.S.n a.P.M.S.c,.int .i64 a.P.M.S.e,.bool a.P.M.W.s,.slice a.P.M.W.A a.P.M.W.n a.P.M.W.c,.int .i64 a.P.M.W.e,.bool a.P.M.C.s,.slice a.P.M.C.A a.P.M.C.n a.P.M.C.c,.int .i64 a.P.M.C.e,.bool a.P.M.A.s,.slice a.P.M.A.A a.P.M.A.n a.P.M.A.c,.int .i64 a.P.M.A.e,.bool a.P.h,.int .i64 a.P.mn,.int .i64 a.P.mx,.slice a.P.A a.P.n a.P.c,.bool a.wo,.int .i64 a.wn,.int .i64 a.wt,.slice a.hA a.hn a.hc,.int .i64 a.own,.int .i64 a.cap,.slice a.dA a.dn a.dc,.slice a.fA a.fn a.fc,.slice a.tA a.tn a.tc],.agg #[.int .i64 b.id,.int .i64 b.val,.bool b.up,.int .i64 b.kl,.int .i64 b.kt,.int .i64 b.ks,.int .i64 b.ke,.int .i64 b.kf,.bool b.P.M.S.s,.slice b.P.M.S.A b.P.M.S.n b.P.M.S.c,.int .i64 b.P.M.S.e,.bool b.P.M.W.s,.slice b.P.M.W.A b.P.M.W.n b.P.M.W.c,.int .i64 b.P.M.W.e,.bool b.P.M.C.s,.slice b.P.M.C.A b.P.M.C.n b.P.M.C.c,.int .i64 b.P.M.C.e,.bool b.P.M.A.s,.slice b.P.M.A.A b.P.M.A.n b.P.M.A.c,.int .i64 b.P.M.A.e,.bool b.P.h,.int .i64 b.P.mn,.int .i64 b.P.mx,.slice b.P.A b.P.n b.P.c,.bool b.wo,.int .i64 b.wn,.int .i64 b.wt,.slice b.hA b.hn b.hc,.int .i64 b.own,.int .i64 b.cap,.slice b.dA b.dn b.dc,.slice b.fA b.fn b.fc,.slice b.tA b.tn b.tc]] w fun e w'=>e=.returned (.bool k)/\Below w.heap.size w w':=by
 obtain⟨w1,hw1,bA,ja,S1⟩:=qb7 63 w a
 obtain⟨w2,hw2,bB,jb,S2⟩:=qb7 63 w1 b
 have s1:=ja.size
 have jw:Below w.heap.size w w2:=lz ja jb
 have s2:=jb.size
 have SA:w.heap.size < w2.heap.size:=by omega
 replace bA:qak 63 w2 w.heap.size a:=(jb.block _ S1).trans bA
 have HK:Hid (k=((a.id==b.id) && ((a.val==b.val) && ((a.up==b.up) && (qge a b && (qgd a b && (qbf a.P b.P && (Pa.Sm a.hs b.hs && (sameC a.own a.cap a.ds b.own b.cap b.ds && (qcp a.fs b.fs && De.Sm a.ts b.ts)))))))))):=Lib.hid hk.symm
 clear hk ja jb s2 S1 s1
 obtain⟨t0,h0⟩:∃ t,(a.id==b.id)=t:=⟨_,rfl⟩
 obtain⟨t1,h1⟩:∃ t,(a.val==b.val)=t:=⟨_,rfl⟩
 obtain⟨t2,h2⟩:∃ t,(a.up==b.up)=t:=⟨_,rfl⟩
 obtain⟨t3,h3⟩:∃ t,qge a b=t:=⟨_,rfl⟩
 obtain⟨t4,h4⟩:∃ t,qgd a b=t:=⟨_,rfl⟩
 obtain⟨t5,h5⟩:∃ t,qbf a.P b.P=t:=⟨_,rfl⟩
 obtain⟨t6,h6⟩:∃ t,Pa.Sm a.hs b.hs=t:=⟨_,rfl⟩
 obtain⟨t7,h7⟩:∃ t,sameC a.own a.cap a.ds b.own b.cap b.ds=t:=⟨_,rfl⟩
 obtain⟨t8,h8⟩:∃ t,qcp a.fs b.fs=t:=⟨_,rfl⟩
 obtain⟨t9,h9⟩:∃ t,De.Sm a.ts b.ts=t:=⟨_,rfl⟩
 have H5:=Lib.hid h5
 have H6:=Lib.hid h6
 have H7:=Lib.hid h7
 have H8:=Lib.hid h8
 have H9:=Lib.hid h9
 rw [h0,h1,h2,h3,h4,h5,h6,h7,h8,h9] at HK
 clear h5 h6 h7 h8 h9
 unfold qge at h3
 unfold qgd at h4
 have q3:=fun W=>eqlCl W a.kl a.kt a.ks a.ke a.kf b.kl b.kt b.ks b.ke b.kf
 have q4:=fun W=>eqlWt W a.wo a.wn a.wt b.wo b.wn b.wt
 rw [h3] at q3
 rw [h4] at q4
 clear h3 h4
 go_enter Tryz.func61,Tryz.ntmps61
 have p0:w2.cell? ⟨w.heap.size,0,none⟩=some (.int .i64 a.id):=qak.at_ bA 0 _ rfl
 have p1:w2.cell? ⟨w.heap.size,1,none⟩=some (.int .i64 a.val):=qak.at_ bA 1 _ rfl
 have p2:w2.cell? ⟨w.heap.size,2,none⟩=some (.bool a.up):=qak.at_ bA 2 _ rfl
 have p3:w2.cell? ⟨w.heap.size,3,none⟩=some (.int .i64 a.kl):=qak.at_ bA 3 _ rfl
 have p4:w2.cell? ⟨w.heap.size,4,none⟩=some (.int .i64 a.kt):=qak.at_ bA 4 _ rfl
 have p5:w2.cell? ⟨w.heap.size,5,none⟩=some (.int .i64 a.ks):=qak.at_ bA 5 _ rfl
 have p6:w2.cell? ⟨w.heap.size,6,none⟩=some (.int .i64 a.ke):=qak.at_ bA 6 _ rfl
 have p7:w2.cell? ⟨w.heap.size,7,none⟩=some (.int .i64 a.kf):=qak.at_ bA 7 _ rfl
 have p24:w2.cell? ⟨w.heap.size,24,none⟩=some (.bool a.wo):=qak.at_ bA 24 _ rfl
 have p25:w2.cell? ⟨w.heap.size,25,none⟩=some (.int .i64 a.wn):=qak.at_ bA 25 _ rfl
 have p26:w2.cell? ⟨w.heap.size,26,none⟩=some (.int .i64 a.wt):=qak.at_ bA 26 _ rfl
 have q_0:w2.cell? ⟨w1.heap.size,0,none⟩=some (.int .i64 b.id):=qak.at_ bB 0 _ rfl
 have q_1:w2.cell? ⟨w1.heap.size,1,none⟩=some (.int .i64 b.val):=qak.at_ bB 1 _ rfl
 have q_2:w2.cell? ⟨w1.heap.size,2,none⟩=some (.bool b.up):=qak.at_ bB 2 _ rfl
 have q_3:w2.cell? ⟨w1.heap.size,3,none⟩=some (.int .i64 b.kl):=qak.at_ bB 3 _ rfl
 have q_4:w2.cell? ⟨w1.heap.size,4,none⟩=some (.int .i64 b.kt):=qak.at_ bB 4 _ rfl
 have q_5:w2.cell? ⟨w1.heap.size,5,none⟩=some (.int .i64 b.ks):=qak.at_ bB 5 _ rfl
 have q_6:w2.cell? ⟨w1.heap.size,6,none⟩=some (.int .i64 b.ke):=qak.at_ bB 6 _ rfl
 have q_7:w2.cell? ⟨w1.heap.size,7,none⟩=some (.int .i64 b.kf):=qak.at_ bB 7 _ rfl
 have q_24:w2.cell? ⟨w1.heap.size,24,none⟩=some (.bool b.wo):=qak.at_ bB 24 _ rfl
 have q_25:w2.cell? ⟨w1.heap.size,25,none⟩=some (.int .i64 b.wn):=qak.at_ bB 25 _ rfl
 have q_26:w2.cell? ⟨w1.heap.size,26,none⟩=some (.int .i64 b.wt):=qak.at_ bB 26 _ rfl
 cases t0
 case false =>
  obtain rfl:k=false:=HK.out
  go_wp2
  go_ret
  exact⟨rfl,jw⟩
 cases t1
 case false =>
  obtain rfl:k=false:=HK.out
  go_wp2
  go_ret
  exact⟨rfl,jw⟩
 cases t2
 case false =>
  obtain rfl:k=false:=HK.out
  go_wp2
  go_ret
  exact⟨rfl,jw⟩
 cases t3
 case false =>
  obtain rfl:k=false:=HK.out
  go_wp2
  go_ret
  exact⟨rfl,jw⟩
 cases t4
 case false =>
  obtain rfl:k=false:=HK.out
  go_wp2
  go_ret
  exact⟨rfl,jw⟩
 have ra:=qak.part bA
 have rb:=qak.part bB
 go_wp2_with (first
  | (refine Ma.wpList_load_midG (by rfl) 30 (.tmp 39) rfl (w.heap.size) 8 rfl [.bool a.P.M.S.s,.slice a.P.M.S.A a.P.M.S.n a.P.M.S.c,.int .i64 a.P.M.S.e,.bool a.P.M.W.s,.slice a.P.M.W.A a.P.M.W.n a.P.M.W.c,.int .i64 a.P.M.W.e,.bool a.P.M.C.s,.slice a.P.M.C.A a.P.M.C.n a.P.M.C.c,.int .i64 a.P.M.C.e,.bool a.P.M.A.s,.slice a.P.M.A.A a.P.M.A.n a.P.M.A.c,.int .i64 a.P.M.A.e,.bool a.P.h,.int .i64 a.P.mn,.int .i64 a.P.mx,.slice a.P.A a.P.n a.P.c] _ ra Tryz.underlying30 rfl (by kernel_rfl) ?_)
  | (refine Ma.wpList_load_midG (by rfl) 30 (.tmp 41) rfl (w1.heap.size) 8 rfl [.bool b.P.M.S.s,.slice b.P.M.S.A b.P.M.S.n b.P.M.S.c,.int .i64 b.P.M.S.e,.bool b.P.M.W.s,.slice b.P.M.W.A b.P.M.W.n b.P.M.W.c,.int .i64 b.P.M.W.e,.bool b.P.M.C.s,.slice b.P.M.C.A b.P.M.C.n b.P.M.C.c,.int .i64 b.P.M.C.e,.bool b.P.M.A.s,.slice b.P.M.A.A b.P.M.A.n b.P.M.A.c,.int .i64 b.P.M.A.e,.bool b.P.h,.int .i64 b.P.mn,.int .i64 b.P.mx,.slice b.P.A b.P.n b.P.c] _ rb Tryz.underlying30 rfl (by kernel_rfl) ?_))
 refine (Ma.SamePart_any w2 a.P b.P (NRows.on hA jw).P (NRows.on hB jw).P t5 H5.out).mono ?_
 rintro e' v1 ⟨rfl,j2⟩
 try clear hw
 clear ra rb p0 p1 p2 p3 p4 p5 p6 p7 p24 p25 p26 q_0 q_1 q_2 q_3 q_4 q_5 q_6 q_7 q_24 q_25 q_26 q3 q4
 try clear hw1
 try clear hw2
 clear h0 h1 h2
 cases t5
 case false =>
  obtain rfl:k=false:=HK.out
  go_wp2
  go_ret
  exact⟨rfl,(lz jw j2)⟩
 have p27:v1.cell? ⟨w.heap.size,27,none⟩=some (.slice a.hA a.hn a.hc):=qak.at_ (qaa bA j2 SA) 27 _ rfl
 have q_27:v1.cell? ⟨w1.heap.size,27,none⟩=some (.slice b.hA b.hn b.hc):=qak.at_ (qaa bB j2 S2) 27 _ rfl
 go_wp2_with fail
 refine (qy2 v1 a.hA b.hA a.hn a.hc b.hn b.hc a.hs b.hs (NRows.on hA (lz jw j2)).H (NRows.on hB (lz jw j2)).H t6 H6.out).mono ?_
 rintro e' v3 ⟨rfl,j4⟩
 try clear hw
 clear p27 q_27
 cases t6
 case false =>
  obtain rfl:k=false:=HK.out
  go_wp2
  go_ret
  exact⟨rfl,(lz jw (lz j2 j4))⟩
 have p28:v3.cell? ⟨w.heap.size,28,none⟩=some (.int .i64 a.own):=qak.at_ (qaa bA (lz j2 j4) SA) 28 _ rfl
 have p29:v3.cell? ⟨w.heap.size,29,none⟩=some (.int .i64 a.cap):=qak.at_ (qaa bA (lz j2 j4) SA) 29 _ rfl
 have p30:v3.cell? ⟨w.heap.size,30,none⟩=some (.slice a.dA a.dn a.dc):=qak.at_ (qaa bA (lz j2 j4) SA) 30 _ rfl
 have q_28:v3.cell? ⟨w1.heap.size,28,none⟩=some (.int .i64 b.own):=qak.at_ (qaa bB (lz j2 j4) S2) 28 _ rfl
 have q_29:v3.cell? ⟨w1.heap.size,29,none⟩=some (.int .i64 b.cap):=qak.at_ (qaa bB (lz j2 j4) S2) 29 _ rfl
 have q_30:v3.cell? ⟨w1.heap.size,30,none⟩=some (.slice b.dA b.dn b.dc):=qak.at_ (qaa bB (lz j2 j4) S2) 30 _ rfl
 go_wp2_with fail
 refine (De.SameC_any v3 a.own a.cap b.own b.cap 0 v3.heap.size 0 v3.heap.size a.dA b.dA a.dn a.dc b.dn b.dc a.ds b.ds (NRows.on hA (lz jw (lz j2 j4))).D (NRows.on hB (lz jw (lz j2 j4))).D (Nat.le_refl _) (Nat.le_refl _) t7 H7.out).mono ?_
 rintro e' v5 ⟨rfl,j6⟩
 try clear hw
 clear p28 p29 p30 q_28 q_29 q_30
 cases t7
 case false =>
  obtain rfl:k=false:=HK.out
  go_wp2
  go_ret
  exact⟨rfl,(lz jw (lz j2 (lz j4 j6)))⟩
 have p31:v5.cell? ⟨w.heap.size,31,none⟩=some (.slice a.fA a.fn a.fc):=qak.at_ (qaa bA (lz j2 (lz j4 j6)) SA) 31 _ rfl
 have q_31:v5.cell? ⟨w1.heap.size,31,none⟩=some (.slice b.fA b.fn b.fc):=qak.at_ (qaa bB (lz j2 (lz j4 j6)) S2) 31 _ rfl
 go_wp2_with fail
 refine (Ma.SameF_any v5 a.fA b.fA a.fn a.fc b.fn b.fc a.fs b.fs (NRows.on hA (lz jw (lz j2 (lz j4 j6)))).F (NRows.on hB (lz jw (lz j2 (lz j4 j6)))).F t8 H8.out).mono ?_
 rintro e' v7 ⟨rfl,j8⟩
 try clear hw
 clear p31 q_31
 cases t8
 case false =>
  obtain rfl:k=false:=HK.out
  go_wp2
  go_ret
  exact⟨rfl,(lz jw (lz j2 (lz j4 (lz j6 j8))))⟩
 have p32:v7.cell? ⟨w.heap.size,32,none⟩=some (.slice a.tA a.tn a.tc):=qak.at_ (qaa bA (lz j2 (lz j4 (lz j6 j8))) SA) 32 _ rfl
 have q_32:v7.cell? ⟨w1.heap.size,32,none⟩=some (.slice b.tA b.tn b.tc):=qak.at_ (qaa bB (lz j2 (lz j4 (lz j6 j8))) S2) 32 _ rfl
 go_wp2_with fail
 refine (qy1 v7 a.tA b.tA a.tn a.tc b.tn b.tc a.ts b.ts (NRows.on hA (lz jw (lz j2 (lz j4 (lz j6 j8))))).T (NRows.on hB (lz jw (lz j2 (lz j4 (lz j6 j8))))).T t9 H9.out).mono ?_
 rintro e' v9 ⟨rfl,j10⟩
 try clear hw
 clear p32 q_32
 obtain rfl:k=t9:=HK.out
 go_wp2
 go_ret
 exact⟨rfl,(lz jw (lz j2 (lz j4 (lz j6 (lz j8 j10)))))⟩
end No
end Go.Proofs.YtmbppgjhdcmckaaGreatDoor
namespace Go.Proofs.YtmbppgjhdcmckaaGreatDoor
open Go.RowKit
namespace No
open Dy
def qnk(k:Nat):FuncId:=if k=0 then 115 else if k=1 then 116 else if k=2 then 117 else if k=3 then 120 else if k=4 then 123 else if k=5 then 125 else 127
noncomputable def qku(v:Nv)(k:Nat):Bool:=if k=0 then qc9 v else if k=1 then qen v else if k=2 then qc8 v else if k=3 then qem v else if k=4 then qel v else if k=5 then qd2 v else qd1 v
noncomputable def qbl(v:Nv):Bool:=qc9 v || (qen v || (qc8 v || (qem v || (qel v || (qd2 v || qd1 v)))))
noncomputable def qir(v:Nv):Bool:=decide (0<=v.id) && (decide (v.id < 8) && (if v.up then !qbl v else qmp v (ZNv v.id)))
def qn1(w:World)(g2 g1:Nat):Prop:=w.heap[g2]? = some (.cells #[.func (.func 115) #[] #[.pointer (some ⟨g1,0,none⟩)],.func (.func 116) #[] #[.pointer (some ⟨g1,0,none⟩)],.func (.func 117) #[] #[.pointer (some ⟨g1,0,none⟩)],.func (.func 120) #[] #[.pointer (some ⟨g1,0,none⟩)],.func (.func 123) #[] #[.pointer (some ⟨g1,0,none⟩)],.func (.func 125) #[] #[.pointer (some ⟨g1,0,none⟩)],.func (.func 127) #[] #[.pointer (some ⟨g1,0,none⟩)]] 66 (0,0))
theorem qmb{v:Nv}(h:∀ k,k < 7->qku v k=false):qbl v=false:=by
 have h0:=h 0 (by decide)
 have h1:=h 1 (by decide)
 have h2:=h 2 (by decide)
 have h3:=h 3 (by decide)
 have h4:=h 4 (by decide)
 have h5:=h 5 (by decide)
 have h6:=h 6 (by decide)
 change qc9 v=false at h0
 change qen v=false at h1
 change qc8 v=false at h2
 change qem v=false at h3
 change qel v=false at h4
 change qd2 v=false at h5
 change qd1 v=false at h6
 simp only [qbl,h0,h1,h2,h3,h4,h5,h6,Bool.or_false]
theorem qma{v:Nv}{k:Nat}(hk:k < 7)(h:qku v k=true):qbl v=true:=by
 rcases k with _|_|_|_|_|_|_|k
 . change qc9 v=true at h
   simp only [qbl,h,Bool.or_true,Bool.true_or]
 . change qen v=true at h
   simp only [qbl,h,Bool.or_true,Bool.true_or]
 . change qc8 v=true at h
   simp only [qbl,h,Bool.or_true,Bool.true_or]
 . change qem v=true at h
   simp only [qbl,h,Bool.or_true,Bool.true_or]
 . change qel v=true at h
   simp only [qbl,h,Bool.or_true,Bool.true_or]
 . change qd2 v=true at h
   simp only [qbl,h,Bool.or_true,Bool.true_or]
 . change qd1 v=true at h
   simp only [qbl,h,Bool.or_true,Bool.true_or]
 exfalso; omega
theorem qn1.at_{w:World}{g2 g1:Nat}(h:qn1 w g2 g1){k:Nat}(hk:k < 7):w.cell? ⟨g2,k,none⟩=some (.func (.func (qnk k)) #[] #[.pointer (some ⟨g1,0,none⟩)]):=by
 rw [cell_of_row w g2 k _ _ _ h]
 rcases k with _|_|_|_|_|_|_|k
 all_goals first
  | (exfalso; omega)
  | rfl
theorem qvj(w:World)(g1 g:Nat)(v:Nv)(h1:g1 < w.heap.size)(h2:g < w.heap.size)(bp:qhy w g1 g)(bo:qak 107 w g v)(hR:NRows w 0 w.heap.size v)(k:Nat)(hk:k < 7)(b:Bool)(hb:qku v k=b) :
  Calls Tryz.prog (qnk k) #[.pointer (some ⟨g1,0,none⟩)] w fun e w'=>e=.returned (.bool b)/\Below w.heap.size w w':=by
 rcases k with _|_|_|_|_|_|_|k
 . exact qsr w g1 g v h1 h2 bp bo hR b hb
 . exact qsq w g1 g v h1 h2 bp bo hR b hb
 . exact qsp w g1 g v h1 h2 bp bo hR b hb
 . exact qso w g1 g v h1 h2 bp bo hR b hb
 . exact qsn w g1 g v h1 h2 bp bo hR b hb
 . exact qsm w g1 g v h1 h2 bp bo hR b hb
 . exact qsl w g1 g v bp bo hR b hb
 exfalso; omega
theorem qwc(w:World)(g:Nat):∃ U,w.alloc (.cells #[.pointer (some ⟨g,0,none⟩)] 105)=U/\qhy U w.heap.size g/\Below w.heap.size w U/\w.heap.size < U.heap.size :=
 ⟨_,rfl,heap_alloc_last _ _,(Below.refl _ w).alloc (Nat.le_refl _) _,by simp⟩
theorem qwd(w:World)(g1:Nat):∃ U,w.alloc (.cells #[.func (.func 115) #[] #[.pointer (some ⟨g1,0,none⟩)],.func (.func 116) #[] #[.pointer (some ⟨g1,0,none⟩)],.func (.func 117) #[] #[.pointer (some ⟨g1,0,none⟩)],.func (.func 120) #[] #[.pointer (some ⟨g1,0,none⟩)],.func (.func 123) #[] #[.pointer (some ⟨g1,0,none⟩)],.func (.func 125) #[] #[.pointer (some ⟨g1,0,none⟩)],.func (.func 127) #[] #[.pointer (some ⟨g1,0,none⟩)]] 66)=U/\qn1 U w.heap.size g1/\Below w.heap.size w U/\w.heap.size < U.heap.size :=
 ⟨_,rfl,heap_alloc_last _ _,(Below.refl _ w).alloc (Nat.le_refl _) _,by simp⟩
theorem qsj(w:World)(g:Nat):Calls Tryz.prog 63 #[.pointer (some ⟨g,0,none⟩)] w fun e w'=>∃ g1 g2,e=.returned (.slice (some ⟨g2,0,none⟩) 7 7)/\qhy w' g1 g/\g1 < w'.heap.size/\qn1 w' g2 g1/\Below w.heap.size w w':=by
 obtain⟨w1,hw1,bp,j1,S1⟩:=qwc w g
 obtain⟨w2,hw2,bf,j2,S2⟩:=qwd w1 w.heap.size
 have s2:=j2.size
 have j:Below w.heap.size w w2:=lz j1 j2
 replace bp:qhy w2 w.heap.size g:=(j2.block _ S1).trans bp
 have S3:w.heap.size < w2.heap.size:=by omega
 clear j1 j2 s2 S1 S2
 go_enter Tryz.func63,Tryz.ntmps63
 go_wp2
 go_ret
 exact⟨_,_,rfl,bp,S3,bf,j⟩
theorem qnt(w:World)(c:Value)(b:Bool)(h:Calls Tryz.prog 115 #[c] w fun e w'=>e=.returned (.bool b)/\Below w.heap.size w w') :
  Calls Tryz.prog 64 #[.func (.func 115) #[] #[c]] w fun e w'=>e=.returned (.bool b)/\Below w.heap.size w w':=by
 go_enter Tryz.func64,Tryz.ntmps64
 go_wp2_with fail
 refine h.mono ?_
 rintro e' w' ⟨rfl,j⟩
 go_wp2
 go_ret
 exact⟨rfl,j⟩
theorem qns(w:World)(c:Value)(b:Bool)(h:Calls Tryz.prog 116 #[c] w fun e w'=>e=.returned (.bool b)/\Below w.heap.size w w') :
  Calls Tryz.prog 64 #[.func (.func 116) #[] #[c]] w fun e w'=>e=.returned (.bool b)/\Below w.heap.size w w':=by
 go_enter Tryz.func64,Tryz.ntmps64
 go_wp2_with fail
 refine h.mono ?_
 rintro e' w' ⟨rfl,j⟩
 go_wp2
 go_ret
 exact⟨rfl,j⟩
theorem qnr(w:World)(c:Value)(b:Bool)(h:Calls Tryz.prog 117 #[c] w fun e w'=>e=.returned (.bool b)/\Below w.heap.size w w') :
  Calls Tryz.prog 64 #[.func (.func 117) #[] #[c]] w fun e w'=>e=.returned (.bool b)/\Below w.heap.size w w':=by
 go_enter Tryz.func64,Tryz.ntmps64
 go_wp2_with fail
 refine h.mono ?_
 rintro e' w' ⟨rfl,j⟩
 go_wp2
 go_ret
 exact⟨rfl,j⟩
theorem qnq(w:World)(c:Value)(b:Bool)(h:Calls Tryz.prog 120 #[c] w fun e w'=>e=.returned (.bool b)/\Below w.heap.size w w') :
  Calls Tryz.prog 64 #[.func (.func 120) #[] #[c]] w fun e w'=>e=.returned (.bool b)/\Below w.heap.size w w':=by
 go_enter Tryz.func64,Tryz.ntmps64
 go_wp2_with fail
 refine h.mono ?_
 rintro e' w' ⟨rfl,j⟩
 go_wp2
 go_ret
 exact⟨rfl,j⟩
theorem qnp(w:World)(c:Value)(b:Bool)(h:Calls Tryz.prog 123 #[c] w fun e w'=>e=.returned (.bool b)/\Below w.heap.size w w') :
  Calls Tryz.prog 64 #[.func (.func 123) #[] #[c]] w fun e w'=>e=.returned (.bool b)/\Below w.heap.size w w':=by
 go_enter Tryz.func64,Tryz.ntmps64
 go_wp2_with fail
 refine h.mono ?_
 rintro e' w' ⟨rfl,j⟩
 go_wp2
 go_ret
 exact⟨rfl,j⟩
theorem qno(w:World)(c:Value)(b:Bool)(h:Calls Tryz.prog 125 #[c] w fun e w'=>e=.returned (.bool b)/\Below w.heap.size w w') :
  Calls Tryz.prog 64 #[.func (.func 125) #[] #[c]] w fun e w'=>e=.returned (.bool b)/\Below w.heap.size w w':=by
 go_enter Tryz.func64,Tryz.ntmps64
 go_wp2_with fail
 refine h.mono ?_
 rintro e' w' ⟨rfl,j⟩
 go_wp2
 go_ret
 exact⟨rfl,j⟩
theorem qnn(w:World)(c:Value)(b:Bool)(h:Calls Tryz.prog 127 #[c] w fun e w'=>e=.returned (.bool b)/\Below w.heap.size w w') :
  Calls Tryz.prog 64 #[.func (.func 127) #[] #[c]] w fun e w'=>e=.returned (.bool b)/\Below w.heap.size w w':=by
 go_enter Tryz.func64,Tryz.ntmps64
 go_wp2_with fail
 refine h.mono ?_
 rintro e' w' ⟨rfl,j⟩
 go_wp2
 go_ret
 exact⟨rfl,j⟩
theorem qo5(w:World)(k:Nat)(hk:k < 7)(c:Value)(b:Bool)(h:Calls Tryz.prog (qnk k) #[c] w fun e w'=>e=.returned (.bool b)/\Below w.heap.size w w') :
  Calls Tryz.prog 64 #[.func (.func (qnk k)) #[] #[c]] w fun e w'=>e=.returned (.bool b)/\Below w.heap.size w w':=by
 rcases k with _|_|_|_|_|_|_|k
 . exact qnt w c b h
 . exact qns w c b h
 . exact qnr w c b h
 . exact qnq w c b h
 . exact qnp w c b h
 . exact qno w c b h
 . exact qnn w c b h
 exfalso; omega
theorem qjd(w:World)(g2 g1 g:Nat)(v:Nv)(h1:g1 < w.heap.size)(h2:g < w.heap.size)(h3:g2 < w.heap.size)(bp:qhy w g1 g)(bo:qak 107 w g v)(bf:qn1 w g2 g1)(hR:NRows w 0 w.heap.size v) :
  Calls Tryz.prog 114 #[.slice (some ⟨g2,0,none⟩) 7 7,.func (.func 64) #[] #[]] w fun e w'=>∃ r:Int,e=.returned (.int .i64 r)/\decide (0<=r)=qbl v/\Below w.heap.size w w':=by
 go_enter Tryz.func114,Tryz.ntmps114
 go_wp2
 go_loopw [5,8] (fun _ iv wr=>∃ k:Nat,iv=.int .i64 k/\k<=7/\Hid (∀ j,j < k->qku v j=false)/\Below w.heap.size w wr) (fun _ iv _=>7-(intOf iv).toNat)
 case atStart=>exact⟨0,rfl,by omega,Lib.hid (fun j hj=>absurd hj (Nat.not_lt_zero _)),Below.refl _ _⟩
 obtain⟨k,rfl,hk,hno,hb⟩:=hrel
 have lw:=hb.size
 by_cases hlt:k < 7
 rotate_left
 . obtain rfl:k=7:=by omega
   have hz:=Lib.hid (qmb hno.out)
   clear hno
   go_wp2
   go_ret
   exact⟨_,rfl,by rw [hz.out]; rfl,hb⟩
 have bfr:qn1 wr g2 g1:=(hb.block _ h3).trans bf
 have ck:=bfr.at_ hlt
 obtain⟨b,hfb⟩:∃ b,qku v k=b:=⟨_,rfl⟩
 have HB:=Lib.hid hfb
 have hc:=qo5 wr k hlt (.pointer (some ⟨g1,0,none⟩)) b (qvj wr g1 g v (Nat.lt_of_lt_of_le h1 lw) (Nat.lt_of_lt_of_le h2 lw) ((hb.block _ h1).trans bp) ((hb.block _ h2).trans bo) (NRows.on hR hb) k hlt b hfb)
 generalize qnk k=FK at ck hc
 clear hfb bfr
 have hkk:IntKind.i64.wrap ((k:Int)+1)=((k+1:Nat):Int):=by rw [IntKind.wrap_i64]; omega
 go_wp2_with fail
 refine hc.mono ?_
 rintro e' u1 ⟨rfl,j1⟩
 clear hc ck
 have hb3:=hb.trans (j1.mono lw)
 cases b
 . have hno2:Hid (∀ j,j < k+1->qku v j=false):=Lib.hid (fun j hj=>by
     rcases Nat.lt_or_ge j k with h|h
     . exact hno.out j h
     obtain rfl:j=k:=by omega
     exact HB.out)
   clear hno HB
   go_wp2
   go_roundw
   case rel=>exact⟨k+1,by first | rfl | (congr 1; omega) | go_num,by omega,hno2,hb3⟩
   case measure=>first | (simp [intOf]; done) | (simp [intOf]; omega)
 have hz:=Lib.hid (qma hlt HB.out)
 clear hno HB
 go_wp2
 go_ret
 exact⟨_,rfl,by rw [hz.out]; exact decide_eq_true (by omega),hb3⟩
theorem qg1(w:World)(g2 g1 g:Nat)(v:Nv)(h1:g1 < w.heap.size)(h2:g < w.heap.size)(h3:g2 < w.heap.size)(bp:qhy w g1 g)(bo:qak 107 w g v)(bf:qn1 w g2 g1)(hR:NRows w 0 w.heap.size v)(q:Bool)(hq:qbl v=q) :
  Calls Tryz.prog 62 #[.slice (some ⟨g2,0,none⟩) 7 7,.func (.func 64) #[] #[]] w fun e w'=>e=.returned (.bool q)/\Below w.heap.size w w':=by
 have hc:=qjd w g2 g1 g v h1 h2 h3 bp bo bf hR
 rw [hq] at hc
 clear hq
 go_enter Tryz.func62,Tryz.ntmps62
 go_wp2_with fail
 refine hc.mono ?_
 rintro e' w' ⟨r,rfl,hr,j⟩
 clear hc
 subst hr
 go_wp2
 go_ret
 exact⟨rfl,j⟩
theorem qr4(w:World)(v:Nv)(hR:NRows w 0 w.heap.size v)(k:Bool)(hk:qir v=k) :
  Calls Tryz.prog 30 #[.agg #[.int .i64 v.id,.int .i64 v.val,.bool v.up,.int .i64 v.kl,.int .i64 v.kt,.int .i64 v.ks,.int .i64 v.ke,.int .i64 v.kf,.bool v.P.M.S.s,.slice v.P.M.S.A v.P.M.S.n v.P.M.S.c,.int .i64 v.P.M.S.e,.bool v.P.M.W.s,.slice v.P.M.W.A v.P.M.W.n v.P.M.W.c,.int .i64 v.P.M.W.e,.bool v.P.M.C.s,.slice v.P.M.C.A v.P.M.C.n v.P.M.C.c,.int .i64 v.P.M.C.e,.bool v.P.M.A.s,.slice v.P.M.A.A v.P.M.A.n v.P.M.A.c,.int .i64 v.P.M.A.e,.bool v.P.h,.int .i64 v.P.mn,.int .i64 v.P.mx,.slice v.P.A v.P.n v.P.c,.bool v.wo,.int .i64 v.wn,.int .i64 v.wt,.slice v.hA v.hn v.hc,.int .i64 v.own,.int .i64 v.cap,.slice v.dA v.dn v.dc,.slice v.fA v.fn v.fc,.slice v.tA v.tn v.tc]] w fun e w'=>e=.returned (.int .i64 (if k then 0 else 8))/\Below w.heap.size w w':=by
 obtain⟨w1,hw1,bN,j1,S1⟩:=qb7 63 w v
 obtain⟨w2,hw2,bO,j2,S2⟩:=qb7 107 w1 v
 have jw:Below w.heap.size w w2:=lz j1 j2
 have s2:=j2.size
 have SA:w.heap.size < w2.heap.size:=by omega
 have rN:=qak.range bN
 replace bN:qak 63 w2 w.heap.size v:=(j2.block _ S1).trans bN
 have HK:=Lib.hid hk
 clear hk j1 j2 s2 S1
 go_enter Tryz.func30,Tryz.ntmps30
 go_upto_region 1 with fail
 try rw [hw1]
 try clear hw1
 go_upto_region 2 with (first | (refine wpList_load_mid rfl 63 (.tmp 1) rfl w.heap.size 0 rfl (cells33 v) _ rN Tryz.underlying63 rfl (by kernel_rfl) ?_; simp only [cells33]))
 try rw [hw2]
 try clear hw2
 clear rN
 have c0:w2.cell? ⟨w.heap.size,0,none⟩=some (.int .i64 v.id):=qak.at_ bN 0 _ rfl
 obtain⟨c1,h1⟩:∃ c,decide (v.id < 0)=c:=⟨_,rfl⟩
 obtain⟨c2,h2⟩:∃ c,decide (8<=v.id)=c:=⟨_,rfl⟩
 obtain⟨c3,h3⟩:∃ c,v.up=c:=⟨_,rfl⟩
 have H1:Hid (decide (0<=v.id)=!c1):=Lib.hid (by rw [<-h1,<-decide_not]; exact decide_eq_decide.2 Int.not_lt.symm)
 have H2:Hid (decide (v.id < 8)=!c2):=Lib.hid (by rw [<-h2,<-decide_not]; exact decide_eq_decide.2 Int.not_le.symm)
 have H3:=Lib.hid h3
 have cu:w2.cell? ⟨w.heap.size,2,none⟩=some (.bool c3):=(qak.at_ bN 2 _ rfl).trans (by rw [h3])
 clear h3
 cases c1
 case true =>
  obtain rfl:k=false:=by rw [<-HK.out]; unfold qir; rw [H1.out]; rfl
  all_goals cases c3
  all_goals go_wp2
  all_goals go_ret
  all_goals exact⟨rfl,jw⟩
 cases c2
 case true =>
  obtain rfl:k=false:=by rw [<-HK.out]; unfold qir; rw [H1.out,H2.out]; rfl
  all_goals cases c3
  all_goals go_wp2
  all_goals go_ret
  all_goals exact⟨rfl,jw⟩
 cases c3
 case false =>
  have HS:Hid (qmp v (ZNv v.id)=k):=Lib.hid (by rw [<-HK.out]; unfold qir; rw [H1.out,H2.out,H3.out]; rfl)
  have rN:=qak.range bN
  go_wp2_with (first | (refine Ma.wpList_load_midG (by rfl) 63 (.tmp 1) rfl w.heap.size 0 rfl (cells33 v) _ rN Tryz.underlying63 rfl (by kernel_rfl) ?_; simp only [cells33]))
  clear rN
  refine (qun w2 v (ZNv v.id) (NRows.on hR jw) (qy8 _ _ _ _) k HS.out).mono ?_
  rintro e' u1 ⟨rfl,ju⟩
  have jv:=lz jw ju
  clear h1 h2 c0 cu
  cases k
  all_goals go_wp2
  all_goals go_ret
  all_goals exact⟨rfl,jv⟩
 obtain⟨q,hq⟩:∃ q,qbl v=q:=⟨_,rfl⟩
 have HQ:=Lib.hid hq
 clear hq
 obtain rfl:k=!q:=by rw [<-HK.out]; unfold qir; rw [H1.out,H2.out,H3.out,<-HQ.out]; rfl
 go_wp2_with fail
 refine (qsj w2 w1.heap.size).mono ?_
 rintro e' u1 ⟨g1,g2,rfl,bp,l1,bf,ju⟩
 have jv:=lz jw ju
 have l2:g2 < u1.heap.size:=by
  have:=bf
  unfold qn1 at this
  exact (Array.getElem?_eq_some_iff.1 this).1
 clear h1 h2 c0 cu
 go_wp2_with fail
 refine (qg1 u1 g2 g1 w1.heap.size v l1 (Nat.lt_of_lt_of_le S2 ju.size) l2 bp ((ju.block _ S2).trans bO) bf (NRows.on hR jv) q HQ.out).mono ?_
 rintro e' u2 ⟨rfl,ju2⟩
 have jv2:=lz jv ju2
 clear HQ HK H1 H2 H3
 cases q
 all_goals go_wp2
 all_goals go_ret
 all_goals exact⟨rfl,jv2⟩
end No
end Go.Proofs.YtmbppgjhdcmckaaGreatDoor
namespace Go.Proofs.YtmbppgjhdcmckaaGreatDoor
open Go.RowKit
namespace Pa
theorem Clone_anyQ(w:World)(lo hi:Nat)(A:Option Addr)(n c:Nat)(xs:List Int)(hX:qae w lo hi .u32 A n xs)(hhi:hi<=w.heap.size)(hn:n<=1000000) :
  Calls Tryz.prog 96 #[.slice A n c] w fun e w'=>∃ A' c',e=.returned (.slice A' n c')/\n<=c'/\Below w.heap.size w w'/\w'.ownsRow w.heap.size 48 1 (.slice A' n c') n (xs.map (Value.int .u32)):=by
 obtain⟨i0,hi0,hz0,hz1,hz2⟩:=info_parts infoU32
 have HL:=Lib.hid hX.len
 have hbig:=hX.big
 rcases A with _|a
 . by_cases hn:n=0
   . subst hn
     have:=hX.zero rfl
     subst this
     have hnil:=Lib.run_eql_slice_nil (P:=Tryz.prog) w 22 48 none 0 c 0 0 Tryz.underlying22
     go_enter Tryz.func96,Tryz.ntmps96
     go_wp2
     go_ret
     exact⟨none,0,rfl,Nat.le_refl _,Below.refl _ _,World.ownsRow_nil _ _ _ _⟩
   obtain⟨_,_,e,_⟩:=hX.row (by omega)
   cases e
 have hnil:=Lib.run_eql_slice_nil (P:=Tryz.prog) w 22 48 (some a) n c 0 0 Tryz.underlying22
 go_enter Tryz.func96,Tryz.ntmps96
 go_wp2_with (first
  | (at_builtin; refine qag _ rfl (.tmp 5) (.tmp 6) 22 rfl w.heap.size 48 i0 _ 1 4 Tryz.underlying22 hi0 hz0 hz1 hz2 rfl (by decide) _ _ _ rfl (qdl w w.heap.size _ 1 (Nat.le_refl _)) _ _ _ n _ _ rfl (hX.alloc hhi _).raw ?c1 ?c2 ?c3 ?c4 ?_))
 case c1=>exact u32_one _
 case c2=>unfold maxLen; omega
 case c3=>omega
 case c4=>simp
 intro A2 c2 w2 hown2 hgrow2 _
 have hb2:Below w.heap.size w w2:=((Below.refl _ w).alloc (Nat.le_refl _) _).grown hgrow2 (by simp) (fun q hq=>by simp [Value.ownBlock] at hq; omega)
 have hc2:=qd0 hown2
 clear hgrow2
 go_wp2
 go_ret
 exact⟨A2,c2,by simp,hc2,hb2,hown2⟩
theorem dyadTwin_anyQ(w:World)(s:Bool)(A:Option Addr)(n c:Nat)(xs:List Int)(e:Int)(hX:qae w 0 w.heap.size .u32 A n xs)(hn:n<=1000000) :
  Calls Tryz.prog 73 #[.agg #[.bool s,.slice A n c,.int .i64 e]] w fun r w'=>∃ A' c',r=.returned (.agg #[.bool s,.slice A' n c',.int .i64 e])/\n<=c'/\Below w.heap.size w w'/\w.heap.size < w'.heap.size/\qae w' (w.heap.size+2) w'.heap.size .u32 A' n xs:=by
 have hxw:=Lib.hid hX.wf
 have hbig:=hX.big
 have hX2:=(hX.alloc (Nat.le_refl _) (.cells #[.bool s,.slice A n c,.int .i64 e] 24)).alloc (by simp) (.cells #[.bool false,.slice none 0 0,.int .i64 0] 24)
 go_enter Tryz.func73,Tryz.ntmps73
 go_wp2_with fail
 refine (Clone_anyQ _ _ _ A n c xs hX2 (by simp; omega) hn).mono ?_
 rintro e w1 ⟨A2,c2,rfl,hc2,hb1,hown1⟩
 (try simp at hown1)
 have hD:=qae.of_own hown1 hxw.out hbig
 have hs1:=hb1.size
 simp at hs1
 have G1:=qfm hb1 (by simp; omega) (qce (.cells #[.bool false,.slice none 0 0,.int .i64 0] 24) (qd8 w (.cells #[.bool s,.slice A n c,.int .i64 e] 24) _ rfl))
 have G2:=qfm hb1 (by simp) (qd8 (w.alloc (.cells #[.bool s,.slice A n c,.int .i64 e] 24)) (.cells #[.bool false,.slice none 0 0,.int .i64 0] 24) (w.heap.size+1) (by simp))
 obtain⟨⟨k1,k2,k3⟩,k4,k5,k6⟩:=qs1 G1
 obtain⟨⟨p1,p2,p3⟩,p4,p5,p6⟩:=qs1 G2
 have hbb:=(((Below.refl w.heap.size w).alloc (Nat.le_refl _) (.cells #[.bool s,.slice A n c,.int .i64 e] 24)).alloc (by simp) (.cells #[.bool false,.slice none 0 0,.int .i64 0] 24)).trans (hb1.mono (by simp; omega))
 clear hb1 hown1 G1 G2
 go_wp2
 refine bodyPost_ret (v:=.agg #[.bool s,.slice A2 n c2,.int .i64 e]) (by simp [results,Tryz.results73,go_sem,p1,p2,p3]) rfl ⟨A2,c2,rfl,hc2,?_,?_,?_⟩
 . repeat (refine Below.setCell ?_ (by simp; try omega) _)
   exact hbb
 . simp [World.setCell]
   omega
 refine qae.more (lo:=w.heap.size+2) (hi:=w1.heap.size) ?_ (Nat.le_refl _) (by simp [World.setCell])
 repeat (refine qad ?_ (by simp; try omega) _)
 exact hD
end Pa
namespace Ma
open Dp Dy
attribute [local go_sem] Oper.semAt_some
theorem qqd{m:Mv}{x y:Nat}{d:Dv}(hx:x < 4)(hy:y < 4):(m.put x d).get y=if y=x then d else m.get y:=by
 have hx':x=0∨x=1∨x=2∨x=3:=by omega
 have hy':y=0∨y=1∨y=2∨y=3:=by omega
 rcases hx' with rfl|rfl|rfl|rfl<;>rcases hy' with rfl|rfl|rfl|rfl<;>rfl
theorem qse{w:World}{g:Nat}(m:Mv):KeepsOthers w ((((((((((((w.setCell ⟨g,0,none⟩ (.bool m.S.s)).setCell ⟨g,1,none⟩ (.slice m.S.A m.S.n m.S.c)).setCell ⟨g,2,none⟩ (.int .i64 m.S.e)).setCell ⟨g,3,none⟩ (.bool m.W.s)).setCell ⟨g,4,none⟩ (.slice m.W.A m.W.n m.W.c)).setCell ⟨g,5,none⟩ (.int .i64 m.W.e)).setCell ⟨g,6,none⟩ (.bool m.C.s)).setCell ⟨g,7,none⟩ (.slice m.C.A m.C.n m.C.c)).setCell ⟨g,8,none⟩ (.int .i64 m.C.e)).setCell ⟨g,9,none⟩ (.bool m.A.s)).setCell ⟨g,10,none⟩ (.slice m.A.A m.A.n m.A.c)).setCell ⟨g,11,none⟩ (.int .i64 m.A.e)) :=
 ((((((((((((KeepsOthers.refl _).trans (KeepsOthers.setCell _ _ _)).trans (KeepsOthers.setCell _ _ _)).trans (KeepsOthers.setCell _ _ _)).trans (KeepsOthers.setCell _ _ _)).trans (KeepsOthers.setCell _ _ _)).trans (KeepsOthers.setCell _ _ _)).trans (KeepsOthers.setCell _ _ _)).trans (KeepsOthers.setCell _ _ _)).trans (KeepsOthers.setCell _ _ _)).trans (KeepsOthers.setCell _ _ _)).trans (KeepsOthers.setCell _ _ _)).trans (KeepsOthers.setCell _ _ _)
theorem qtu{w:World}{g lo hi:Nat}{m':Mv}(h:MRows w lo hi m')(hg:g < lo∨hi<=g)(m:Mv):MRows ((((((((((((w.setCell ⟨g,0,none⟩ (.bool m.S.s)).setCell ⟨g,1,none⟩ (.slice m.S.A m.S.n m.S.c)).setCell ⟨g,2,none⟩ (.int .i64 m.S.e)).setCell ⟨g,3,none⟩ (.bool m.W.s)).setCell ⟨g,4,none⟩ (.slice m.W.A m.W.n m.W.c)).setCell ⟨g,5,none⟩ (.int .i64 m.W.e)).setCell ⟨g,6,none⟩ (.bool m.C.s)).setCell ⟨g,7,none⟩ (.slice m.C.A m.C.n m.C.c)).setCell ⟨g,8,none⟩ (.int .i64 m.C.e)).setCell ⟨g,9,none⟩ (.bool m.A.s)).setCell ⟨g,10,none⟩ (.slice m.A.A m.A.n m.A.c)).setCell ⟨g,11,none⟩ (.int .i64 m.A.e)) lo hi m' :=
 ⟨qad (qad (qad (qad (qad (qad (qad (qad (qad (qad (qad (qad (show qae _ _ _ _ _ _ _ from h.S) hg _) hg _) hg _) hg _) hg _) hg _) hg _) hg _) hg _) hg _) hg _) hg _,qad (qad (qad (qad (qad (qad (qad (qad (qad (qad (qad (qad (show qae _ _ _ _ _ _ _ from h.W) hg _) hg _) hg _) hg _) hg _) hg _) hg _) hg _) hg _) hg _) hg _) hg _,qad (qad (qad (qad (qad (qad (qad (qad (qad (qad (qad (qad (show qae _ _ _ _ _ _ _ from h.C) hg _) hg _) hg _) hg _) hg _) hg _) hg _) hg _) hg _) hg _) hg _) hg _,qad (qad (qad (qad (qad (qad (qad (qad (qad (qad (qad (qad (show qae _ _ _ _ _ _ _ from h.A) hg _) hg _) hg _) hg _) hg _) hg _) hg _) hg _) hg _) hg _) hg _) hg _⟩
theorem qjc{W W':World}{row:Option Nat}{lo hi:Nat}{k:IntKind}{A:Option Addr}{n:Nat}{xs:List Int}(h:qae W lo hi k A n xs)(hg:W.grownBy W' row)(hr:∀ r,row=some r->(∃ o:Obj,W.heap[r]? = some o/\o.isCells=false)∨r < lo):qae W' lo hi k A n xs :=
 ⟨h.len,h.wf,h.big,fun h0=>by
  obtain⟨b,off,e,h1,h2,hc⟩:=h.row h0
  have hlt:=World.block_lt_of_cell? W _ (hc 0 h0).1
  have h3:W'.heap[b]? = W.heap[b]? := hg.block b hlt fun e'=>by
   rcases hr b e'.symm with ⟨o,h4,h5⟩|h4
   . have:=(hc 0 h0).1
     rw [World.cell?] at this
     simp only [h4] at this
     cases o<;>simp_all [Obj.isCells]
   omega
  exact⟨b,off,e,h1,h2,fun j hj=>⟨by rw [World.cell?_of_block h3]; exact (hc j hj).1,by rw [World.frozen?_of_block h3]; exact (hc j hj).2⟩⟩⟩
theorem qou(w:World)(D:Nat):w.grownBy (w.putObj D (.deferred none)) (some D):=⟨rfl,rfl,rfl,by simp,fun k _ hk=>World.putObj_heap_other (fun e=>hk (by rw [e]))⟩
structure TwIQ(w:World)(B:Nat)(m:Mv)(pre:List Nat)(O:Nat->Prop)(W:World)(m':Mv):Prop where
 own:O w.heap.size
 box:qaz W w.heap.size m'
 res:qaz W (w.heap.size+1) ZM
 done:∀ j,j∈pre->j < 4->qet (m.get j) (m'.get j)/\qae W B W.heap.size .u32 (m'.get j).A (m'.get j).n (m'.get j).xs
 rest:∀ j,j∉pre->j < 4->m'.get j=m.get j
 bel:Below w.heap.size w W
theorem qtf(w:World)(m:Mv)(hR:MRows w 0 w.heap.size m)(hn:∀ x,x < 4->(m.get x).n<=1000000) :
  Calls Tryz.prog 95 #[.agg #[.bool m.S.s,.slice m.S.A m.S.n m.S.c,.int .i64 m.S.e,.bool m.W.s,.slice m.W.A m.W.n m.W.c,.int .i64 m.W.e,.bool m.C.s,.slice m.C.A m.C.n m.C.c,.int .i64 m.C.e,.bool m.A.s,.slice m.A.A m.A.n m.A.c,.int .i64 m.A.e]] w fun e w'=>∃ m',e=.returned (.agg #[.bool m'.S.s,.slice m'.S.A m'.S.n m'.S.c,.int .i64 m'.S.e,.bool m'.W.s,.slice m'.W.A m'.W.n m'.W.c,.int .i64 m'.W.e,.bool m'.C.s,.slice m'.C.A m'.C.n m'.C.c,.int .i64 m'.C.e,.bool m'.A.s,.slice m'.A.A m'.A.n m'.A.c,.int .i64 m'.A.e])/\(∀ x,x < 4->qet (m.get x) (m'.get x))/\Below w.heap.size w w'/\MRows w' w.heap.size w'.heap.size m':=by
 refine (callsIn_wide (n:=5)).1 ?_
 refine callsIn_of_wp_marks Tryz.func95 rfl trivial ?_ rfl
 simp only [Tryz.ntmps95,List.size_toArray,List.length_cons,List.length_nil,Nat.reduceAdd,Nat.reduceSub,Array.replicate_succ,Array.replicate_zero,List.push_toArray,List.append_toArray,List.nil_append,List.cons_append]
 gi_wp2_with fail
 refine⟨trivial,(callsIn_wide.2 (qi7 _ _ _)).mono ?_⟩
 rintro e w2 ⟨rfl,rfl⟩
 gi_wp2_with fail
 obtain⟨W0,hW0⟩:∃ W0,(((w.alloc (.cells #[.bool m.S.s,.slice m.S.A m.S.n m.S.c,.int .i64 m.S.e,.bool m.W.s,.slice m.W.A m.W.n m.W.c,.int .i64 m.W.e,.bool m.C.s,.slice m.C.A m.C.n m.C.c,.int .i64 m.C.e,.bool m.A.s,.slice m.A.A m.A.n m.A.c,.int .i64 m.A.e] 26)).alloc (.cells #[.bool false,.slice none 0 0,.int .i64 0,.bool false,.slice none 0 0,.int .i64 0,.bool false,.slice none 0 0,.int .i64 0,.bool false,.slice none 0 0,.int .i64 0] 26)).alloc (.cells #[.pointer (some ⟨w.heap.size,0,none⟩)] 185)).alloc (.cells #[.pointer (some ⟨w.heap.size,0,none⟩)] 185)=W0:=⟨_,rfl⟩
 obtain⟨⟨hM0,hE0,hS1,hS2⟩,hB0,hlo,hhi⟩:=q1x w _ _ _ _ hW0
 rw [hW0]
 clear hW0
 refine qb3 (F:=Fence.wide) rfl (by decide) (gf:=190) (lb:=#[.pointer (some ⟨w.heap.size+1+1,0,none⟩),.pointer (some ⟨w.heap.size+1+1+1,0,none⟩)]) rfl trivial (enters_of Tryz.func190 (by kernel_rfl) rfl)
  (qi6 _ _ _ w.heap.size w.heap.size W0 ⟨hS1,hS2⟩) (by omega) (fun _=>rfl)
  (fun pre O W=>W0.heap.size<=W.heap.size/\∃ m',TwIQ w W0.heap.size m pre O W m')
  (fun _ _ _ _=>False)
  (fun O s A B row hs hg hr=>by
   obtain⟨hsz,m',h⟩:=hs
   exact⟨Nat.le_trans hsz hg.size,m',h.own,qcx h.box hg (fun r e=>(hr r e).2),qcx h.res hg (fun r e=>(hr r e).2),fun j h1 h2=>⟨(h.done j h1 h2).1,(qjc (h.done j h1 h2).2 hg (fun r e=>.inl (hr r e).2)).more (Nat.le_refl _) hg.size⟩,h.rest,h.bel.grown hg h.bel.size (fun k e=>by have:=(hr k e).1; omega)⟩)
  (fun j O s A B row hs hg hr=>hs)
  (fun s O A B row hs hg hr=>by
   obtain⟨hsz,m',h⟩:=hs
   exact⟨Nat.le_trans hsz hg.size,m',h.own,qb6 h.box hg hr (by omega),qb6 h.res hg hr (by omega),fun j h1 h2=>⟨(h.done j h1 h2).1,(qjc (h.done j h1 h2).2 hg (fun r e=>.inr (by have:=hr r e; omega))).more (Nat.le_refl _) hg.size⟩,h.rest,qcu h.bel (Nat.le_refl _) hg hr (by omega)⟩)
  (fun j s O A B row hs hg hr=>hs)
  (fun k=>k=w.heap.size) (fun k hk e=>by omega) (fun k e=>by omega) ⟨Nat.le_refl _,m,rfl,hM0,hE0,(fun x hx=>absurd hx (List.not_mem_nil)),fun _ _ _=>rfl,hB0⟩
  (fun x a' W=>a'={ tmps:=#[.agg #[.bool m.S.s,.slice m.S.A m.S.n m.S.c,.int .i64 m.S.e,.bool m.W.s,.slice m.W.A m.W.n m.W.c,.int .i64 m.W.e,.bool m.C.s,.slice m.C.A m.C.n m.C.c,.int .i64 m.C.e,.bool m.A.s,.slice m.A.A m.A.n m.A.c,.int .i64 m.A.e],.pointer (some ⟨w.heap.size,0,none⟩),.pointer (some ⟨w.heap.size+1,0,none⟩),.pointer (some ⟨w.heap.size,3*x,none⟩),
   .func (.func 190) #[] #[.pointer (some ⟨w.heap.size+1+1,0,none⟩),.pointer (some ⟨w.heap.size+1+1+1,0,none⟩)],.pointer (some ⟨w.heap.size,3*x,none⟩),.pointer (some ⟨w.heap.size,3*x,none⟩),undef,undef,undef,undef,undef,undef,undef],defers:=[] })
  (fun x a' _ _ _ _ h _ _=>h) ?assign ?body ?done ?stop
 case assign =>
  intro l pre x O W K hgx hsW hi hK
  unfold qx8
  gi_wp2
  exact hK _ _ (KeepsFrom.refl _ _) (qfr.refl _ _) hi rfl
 case body =>
  rintro l pre x O a' W ⟨hx4,hpre⟩ hsW ⟨hsz,m',h⟩ rfl _
  have hnin:x∉pre:=fun hin=>by
   rw [hpre] at hin
   exact Nat.lt_irrefl x (List.mem_range.1 hin)
  have hmx:=h.rest x hnin hx4
  have hrow:qae W 0 W.heap.size .u32 (m.get x).A (m.get x).n (m.get x).xs:=((hR.get x).below h.bel (Nat.le_refl _)).more (Nat.le_refl _) h.bel.size
  have hn':=hn x hx4
  have hcm:=qaz.at_ h.box hx4
  rw [hmx] at hcm
  generalize hd:m.get x=d at hcm hrow hn' hmx
  have HD:=Lib.hid hd
  have HMX:=Lib.hid hmx
  clear hd hmx
  obtain⟨⟨k1,k2,k3⟩,k4,k5,k6⟩:=hcm
  gi_wp2_with fail
  refine⟨trivial,(CallsIn.inRound l (callsIn_wide.2 (Pa.dyadTwin_anyQ W d.s d.A d.n d.c d.xs d.e hrow hn'))).mono ?_⟩
  rintro e W2 ⟨A',c',rfl,hc',hB,hlt,hI⟩
  have hM2:=qb2 h.box hB (by omega)
  have hcm2:=qaz.at_ (m:=m') hM2 hx4
  rw [HMX.out] at hcm2
  obtain⟨⟨j1,j2,j3⟩,j4,j5,j6⟩:=hcm2
  clear k1 k2 k3 k4 k5 k6
  gi_wp2
  have hb2:=h.bel.trans (hB.mono h.bel.size)
  have hs2:=h.bel.size
  have hs3:=hB.size
  refine⟨(qdn hB).trans (((KeepsOthers.setCell _ _ _).trans (KeepsOthers.setCell _ _ _)).trans (KeepsOthers.setCell _ _ _) |>.from _),O,(qd9 hB).trans (((qgu h.own _).trans (qgu h.own _)).trans (qgu h.own _)),by simp [World.setCell]; omega,m'.put x ⟨d.s,A',d.n,c',d.e,d.xs⟩,h.own,qaz.put hM2 hx4 ⟨d.s,A',d.n,c',d.e,d.xs⟩,?_,fun j hj hj4=>?_,fun j hj hj4=>?_,((hb2.setCell (Nat.le_refl _) _).setCell (Nat.le_refl _) _).setCell (Nat.le_refl _) _⟩
  . exact (Below.heap_setCell _ _ _ _ (by simp)).trans ((Below.heap_setCell _ _ _ _ (by simp)).trans ((Below.heap_setCell _ _ _ _ (by simp)).trans (qb2 h.res hB (by omega))))
  . rw [qqd hx4 hj4]
    have hsz3:(((W2.setCell ⟨w.heap.size,3*x,none⟩ (.bool d.s)).setCell ⟨w.heap.size,3*x+1,none⟩ (.slice A' d.n c')).setCell ⟨w.heap.size,3*x+2,none⟩ (.int .i64 d.e)).heap.size=W2.heap.size:=by simp [World.setCell]
    by_cases e:j=x
    . rw [if_pos e,e,HD.out]
      refine⟨⟨rfl,rfl,rfl,rfl,hc'⟩,?_⟩
      exact (qad (qad (qad (hI.more (by omega) (Nat.le_refl _)) (.inl (by show w.heap.size < W0.heap.size; omega)) _) (.inl (by show w.heap.size < W0.heap.size; omega)) _) (.inl (by show w.heap.size < W0.heap.size; omega)) _).more (Nat.le_refl _) (by rw [hsz3]; exact Nat.le_refl _)
    rw [if_neg e]
    have hjp:j∈pre:=by
     rcases List.mem_append.1 hj with h1|h1
     . exact h1
     exact absurd (List.mem_singleton.1 h1) e
    refine⟨(h.done j hjp hj4).1,?_⟩
    exact (qad (qad (qad ((h.done j hjp hj4).2.below hB (Nat.le_refl _)) (.inl (by show w.heap.size < W0.heap.size; omega)) _) (.inl (by show w.heap.size < W0.heap.size; omega)) _) (.inl (by show w.heap.size < W0.heap.size; omega)) _).more (Nat.le_refl _) (by rw [hsz3]; omega)
  have h1:j∉pre:=fun h1=>hj (List.mem_append_left _ h1)
  have e:j≠x:=fun e=>hj (by rw [e]; exact List.mem_append_right _ (List.mem_singleton.2 rfl))
  rw [qqd hx4 hj4,if_neg e]
  exact h.rest j h1 hj4
 case done =>
  rintro D ys O W hD hS ⟨hsz,m',h⟩ hK
  obtain⟨⟨k0,k1,k2,k3,k4,k5,k6,k7,k8,k9,k10,k11⟩,kf⟩:=qaz.cells h.box
  obtain⟨⟨z0,z1,z2,z3,z4,z5,z6,z7,z8,z9,z10,z11⟩,zf⟩:=qaz.cells h.res
  have hall:∀ x,x < 4->qet (m.get x) (m'.get x)/\qae W W0.heap.size W.heap.size .u32 (m'.get x).A (m'.get x).n (m'.get x).xs:=fun x hx=>h.done x (by rw [hS]; simp; omega) hx
  have hbel:=h.bel
  have hres:=h.res
  clear h hS
  gi_wp2
  have hK':=(qse (w:=W) (g:=w.heap.size+1) m').same D _ hK rfl
  have hR':MRows W W0.heap.size W.heap.size m':=⟨(hall 0 (by decide)).2,(hall 1 (by decide)).2,(hall 2 (by decide)).2,(hall 3 (by decide)).2⟩
  have hX:=qaz.all hres m'
  have hY:=qnw hbel (show w.heap.size<=w.heap.size+1 by omega) m'
  have hZ:=qtu hR' (g:=w.heap.size+1) (.inl (by omega)) m'
  have hs:=qp4 (w:=W) (g:=w.heap.size+1) m'
  clear k0 k1 k2 k3 k4 k5 k6 k7 k8 k9 k10 k11 kf z0 z1 z2 z3 z4 z5 z6 z7 z8 z9 z10 z11 zf
  generalize ((((((((((((W.setCell ⟨w.heap.size+1,0,none⟩ (.bool m'.S.s)).setCell ⟨w.heap.size+1,1,none⟩ (.slice m'.S.A m'.S.n m'.S.c)).setCell ⟨w.heap.size+1,2,none⟩ (.int .i64 m'.S.e)).setCell ⟨w.heap.size+1,3,none⟩ (.bool m'.W.s)).setCell ⟨w.heap.size+1,4,none⟩ (.slice m'.W.A m'.W.n m'.W.c)).setCell ⟨w.heap.size+1,5,none⟩ (.int .i64 m'.W.e)).setCell ⟨w.heap.size+1,6,none⟩ (.bool m'.C.s)).setCell ⟨w.heap.size+1,7,none⟩ (.slice m'.C.A m'.C.n m'.C.c)).setCell ⟨w.heap.size+1,8,none⟩ (.int .i64 m'.C.e)).setCell ⟨w.heap.size+1,9,none⟩ (.bool m'.A.s)).setCell ⟨w.heap.size+1,10,none⟩ (.slice m'.A.A m'.A.n m'.A.c)).setCell ⟨w.heap.size+1,11,none⟩ (.int .i64 m'.A.e))=V at *
  have hX2:qaz (V.putObj D (.deferred none)) (w.heap.size+1) m':=(World.putObj_heap_other (o:=.deferred none) (by omega:w.heap.size+1≠D)).trans hX
  obtain⟨⟨k0,k1,k2,k3,k4,k5,k6,k7,k8,k9,k10,k11⟩,kf⟩:=qaz.cells hX2
  refine⟨by simp,.inl ⟨_,_,rfl,run_takeDeferred hK',?_⟩⟩
  refine⟨.agg #[.bool m'.S.s,.slice m'.S.A m'.S.n m'.S.c,.int .i64 m'.S.e,.bool m'.W.s,.slice m'.W.A m'.W.n m'.W.c,.int .i64 m'.W.e,.bool m'.C.s,.slice m'.C.A m'.C.n m'.C.c,.int .i64 m'.C.e,.bool m'.A.s,.slice m'.A.A m'.A.n m'.A.c,.int .i64 m'.A.e],?_,m',rfl,?_⟩
  . simp [results,Tryz.f95,go_sem,k0,k1,k2,k3,k4,k5,k6,k7,k8,k9,k10,k11]
  refine⟨fun x hx=>(hall x hx).1,hY.trans (belowK_b (w:=w) (Nat.le_refl _) _ D _ _ (by omega) hK' rfl rfl),?_⟩
  have hp:∀ k,k≠D->(V.putObj D (.deferred none)).heap[k]? = V.heap[k]? := fun k hk=>World.putObj_heap_other hk
  have hdD:D < V.heap.size:=qaw hK'
  have rr:∀ x,x < 4->qae (V.putObj D (.deferred none)) W0.heap.size W.heap.size .u32 (m'.get x).A (m'.get x).n (m'.get x).xs:=fun x _=>qjc (hZ.get x) (qou V D) (fun r e=>by
   injection e with e
   exact .inl ⟨_,e▸hK',rfl⟩)
  have hsz2:(V.putObj D (.deferred none)).heap.size=V.heap.size:=by simp
  have hs':V.heap.size=W.heap.size:=hs
  exact MRows.more ⟨rr 0 (by decide),rr 1 (by decide),rr 2 (by decide),rr 3 (by decide)⟩ (by omega) (by omega)
 case stop =>
  rintro D j pre O W hD hSp hf hK
  exact hf.elim
end Ma
end Go.Proofs.YtmbppgjhdcmckaaGreatDoor