/- The reference's Formed: a walk (printed by a program of mine). -/
import Derived.Test.YtmbppgjhdcmckaaGreatDoorBj10
import Derived.Deep.DeepCutAuto
import Derived.Deep.CutRange
set_option maxHeartbeats 102400000
set_option maxRecDepth 100000
namespace Go.Proofs.YtmbppgjhdcmckaaGreatDoor
open Go.RowKit
namespace Dy
open Dp
theorem qep{m:Nat}(h:m≠0):qaf 2 m=((m%2:Nat):Int)::qaf 2 (m/2):=by
 obtain⟨d,c,n⟩:=qah 2 (m/2) (by decide)
 refine (qdx (by decide) ?_ ?_ ?_).symm
 . intro x hx
   rcases List.mem_cons.1 hx with rfl|hx
   . exact⟨by omega,by have:=Nat.mod_lt m (show 0 < 2 by decide); omega⟩
   exact d x hx
 . intro hne
   by_cases h0:qaf 2 (m/2)=[]
   . have:=qc5 (by decide) h0
     simp only [h0,List.getLast_singleton]
     omega
   rw [List.getLast_cons h0]
   exact c h0
 simp only [num,n,Int.toNat_natCast]
 omega
theorem qrk{k m:Nat}(h:m%2=0):qci (k+1) m=qci k (m/2):=by simp [qci,h]
theorem qto{k m:Nat}(h:m%2=1):qci (k+1) m=(m,k+1):=by simp [qci,h]
theorem qdv{s:Bool}{m k:Nat}(h0:m≠0)(h1:k=0∨m%2=1):qik s (qaf 4294967296 m) (k:Int)↔m < qjq/\k<=1024:=by
 constructor
 . intro h
   have hs:=qah 4294967296 m (by decide)
   have:=(quq hs.1 h).1
   rw [hs.2.2] at this
   exact⟨this.1,by have:=this.2.1; simpa using this⟩
 rintro⟨h2,h3⟩
 exact qgy (d:=⟨s,m,k⟩) ⟨h2,h3,fun h=>absurd h h0,fun h=>by have h':0 < k:=h; show m%2=1; omega⟩
theorem qeq{w:World}{g:Nat}{x y z:Value}{t:TypeId}(h:w.heap[g]? = some (.cells #[x,y,z] t (0,0)))(x' y' z':Value):(((w.setCell ⟨g,0,none⟩ x').setCell ⟨g,1,none⟩ y').setCell ⟨g,2,none⟩ z').heap[g]? = some (.cells #[x',y',z'] t (0,0)):=by
 simp [World.setCell,Array.getElem?_modify,h]
theorem qay{w0 w:World}{B g:Nat}(h:Below B w0 w)(hg:B<=g)(x' y' z':Value):Below B w0 (((w.setCell ⟨g,0,none⟩ x').setCell ⟨g,1,none⟩ y').setCell ⟨g,2,none⟩ z'):=((h.setCell hg _).setCell hg _).setCell hg _
theorem qby{w:World}{lo hi:Nat}{k:IntKind}{A:Option Addr}{n:Nat}{xs:List Int}(h:qae w lo hi k A n xs){g:Nat}(hg:g < lo∨hi<=g)(x' y' z':Value):qae (((w.setCell ⟨g,0,none⟩ x').setCell ⟨g,1,none⟩ y').setCell ⟨g,2,none⟩ z') lo hi k A n xs:=qad (qad (qad h hg _) hg _) hg _
theorem qbw{w:World}{g:Nat}(x' y' z':Value):(((w.setCell ⟨g,0,none⟩ x').setCell ⟨g,1,none⟩ y').setCell ⟨g,2,none⟩ z').heap.size=w.heap.size:=by simp [World.setCell]
theorem qu2{w:World}{lo hi:Nat}{k:IntKind}{A:Option Addr}{n:Nat}{x:Int}{xs:List Int}(h:qae w lo hi k A n (x::xs)) :
  n=xs.length+1/\∃ b off,A=some ⟨b,off,none⟩/\b < hi/\w.cell? ⟨b,off,none⟩=some (.int k x)/\∀ A',(n=1∨A'=some ⟨b,off+1,none⟩)->qae w lo hi k A' (n-1) xs:=by
 have hn:n=xs.length+1:=by rw [<-h.len]; rfl
 obtain⟨b,off,e,h1,h2,hc⟩:=h.row (by omega)
 refine⟨hn,b,off,e,h2,by simpa using (hc 0 (by omega)).1,fun A' hA=>⟨by omega,fun y hy=>h.wf y (List.mem_cons_of_mem _ hy),by have:=h.big; omega,fun h0=>?_⟩⟩
 obtain rfl:=hA.resolve_left (by omega)
 refine⟨b,off+1,rfl,h1,h2,fun j hj=>?_⟩
 have:=hc (j+1) (by omega)
 rw [show off+(j+1)=off+1+j by omega] at this
 simpa using this
theorem qcc(w:World)(s:Bool)(A:Option Addr)(n c:Nat)(xs:List Int)(h:qae w 0 w.heap.size .u8 A n xs)(hd:Dig 2 xs)(hnc:n<=c)(hn:n<=4001)(k:Nat)(hk:k<=2000)(kk:Int)(hkk:kk=k)(v:Nat)(hv:num 2 xs=v)(r:Dn)(code:Int)(hf:qa4 s v k=(r,code)) :
  Calls Tryz.prog 148 #[.agg #[.bool s,.slice A n c],.int .i64 kk] w (qb0 w r code):=by
 subst hkk
 have HV:=Lib.hid hv
 have HF:=Lib.hid hf
 have HD:=Lib.hid hd
 clear hv hf hd
 have hX1:=(h.alloc (Nat.le_refl _) (.cells #[.bool s,.slice A n c] 173)).alloc (by simp) (.cells #[.bool false,.slice none 0 0,.int .i64 0] 24)
 clear h
 generalize hw:(w.alloc (.cells #[.bool s,.slice A n c] 173)).alloc (.cells #[.bool false,.slice none 0 0,.int .i64 0] 24)=w1 at *
 have HS1:Hid (w1.heap.size=w.heap.size+2):=by rw [Hid,<-hw]; simp
 have b1:Below w.heap.size w w1:=by rw [<-hw]; exact ((Below.refl _ w).alloc (Nat.le_refl _) _).alloc (by simp) _
 have X1:w1.heap[w.heap.size]? = some (.cells #[.bool s,.slice A n c] 173 (0,0)):=by
  rw [<-hw,Below.heap_alloc _ _ _ (by simp)]
  exact heap_alloc_last _ _
 have X2:w1.heap[w.heap.size+1]? = some (.cells #[.bool false,.slice none 0 0,.int .i64 0] 24 (0,0)):=by
  rw [<-hw]
  exact heap_alloc2_new _ _ _
 obtain⟨⟨y1,y2⟩,y3,y4⟩:=qfq X1
 obtain⟨⟨z1,z2,z3⟩,z4,z5,z6⟩:=qam X2
 go_enter Tryz.func148,Tryz.ntmps148
 go_wp2_with fail
 refine (qev w1 _ _ A n c xs hX1 HD.out hnc).mono ?_
 rintro e wq ⟨⟨m0,rfl,hm0,hC⟩,rfl⟩
 rw [HV.out] at hC
 clear hX1 hw
 go_wp2_with fail
 by_cases hv0:v=0
 . have hf:=HF.out
   rw [qa4,if_pos hv0] at hf
   injection hf with hr hc
   subst hr
   subst hc
   subst hv0
   obtain rfl:m0=0:=by have:=hC.len; rw [qkx] at this; exact this.symm
   clear hC HF HV HD
   have hnk:((k:Int)==(k:Int))=true:=by simp
   by_cases hk0:k=0
   all_goals
    first | subst hk0 | have hk1:0 < k:=by omega
    go_loopw [1,6] (fun kv bv wr=>kv=.int .i64 _/\bv=.slice A 0 c/\wr=wq) (fun _ _ _=>0)
    case atStart=>exact⟨rfl,rfl,rfl⟩
    obtain⟨rfl,rfl,rfl⟩:=hrel
    go_wp2
    refine bodyPost_ret (v:=.tuple #[.agg #[.bool false,.slice none 0 0,.int .i64 0],.int .i64 0]) (by simp [results,Tryz.results148,go_sem,z1,z2,z3]) rfl ⟨none,0,0,rfl,Nat.le_refl _,?_,qae.nil_ ..⟩
    exact qay b1 (by omega) _ _ _
 go_loopw [1,6] (fun kv bv wr=>∃ (kj m:Nat) (Aj:Option Addr) (nj cj:Nat),kv=.int .i64 kj/\bv=.slice Aj nj cj/\kj<=k/\m≠0/\Hid (qci kj m=qci k v)/\nj<=cj/\nj<=n/\qae wr 0 w.heap.size .u8 Aj nj (qaf 2 m)/\wr=wq) (fun kv _ _=>(intOf kv).toNat)
 case atStart=>exact⟨k,v,A,m0,c,rfl,rfl,Nat.le_refl _,hv0,Lib.hid rfl,by omega,hm0,hC,rfl⟩
 obtain⟨kj,m,Aj,nj,cj,rfl,rfl,hkj,hm,HST,hncj,hnj,hIj,rfl⟩:=hrel
 clear hC
 have hIc:=hIj
 rw [qep hm] at hIc
 have hl:=Lib.hid hIc.len
 obtain⟨b,off,rfl,hcell⟩:=get hIc (by have:=hl.out; simp at this; omega)
 have g1:wr.cell? ⟨b,off,none⟩=some (.int .u8 ((m%2:Nat):Int)):=by have:=hcell 0 (by have:=hl.out; simp at this; omega); simpa using this
 have hn1:((nj:Int)==0)=false:=by have:=hl.out; simp at this; simp; omega
 have hn2:0 < nj:=by have:=hl.out; simp at this; omega
 clear hcell hIc hl
 by_cases hk0:¬ 0 < kj
 . have hko:Hid (kj=0∨m%2=1):=Lib.hid (.inl (by omega))
   replace HST:=Lib.hid (HST.out.symm.trans (show qci kj m=(m,kj) by (obtain rfl:kj=0:=by omega); rfl))
   go_wp2_with fail
   have kD:qan wr wr.drew:=fun _ _=>rfl
   have c0:Below wr.heap.size wr wr.drew:=(Below.refl _ _).drew
   refine zB (qan wr) [7] 8 ?_
   refine zM 1 [0] ?_ ?_
   refine zD 1 (.bool s) rfl ?hyA1 ?restA1
   case hyA1 =>
    intro w' h1
    obtain⟨⟨k1,k2⟩,_⟩:=qfq ((h1 _ (by have:=HS1.out; omega)).trans X1)
    go_simp
   try simp only [Act.put,zp]
   refine zM 2 [2,4] ?_ ?_
   refine qi0 (i:=3) (j:=6) (Li:=#[zT,zT,zT,zT,zT,zF,zF,zF]) (Lj:=#[zT,zT,zT,zF,zT,zF,zT,zF]) rfl rfl (by rfl) (by rfl) (by kernel_rfl) (by rfl) (by rfl) (fun K hK=>?lm1) (fun K hK=>?al1)
   case lm1 =>
    go_simp
    go_at_call 188
    refine (qfa wr.drew 0 w.heap.size (some ⟨b,off,none⟩) nj cj (qaf 2 m) (hIj.drewN 1) qkf hncj (by show w.heap.size<=wr.heap.size; have:=HS1.out; omega) (by omega) m qhn).mono ?_
    rintro e w4 ⟨A2,n2,c2,rfl,hc2,hB,hI⟩
    have HI:=Lib.hid hI
    have hs4:wr.heap.size<=w4.heap.size:=hB.size
    clear hI
    have c1:=c0.trans hB
    clear hB
    refine hK _ _ ⟨fun _ _ p hp=>c1.block p hp,?_⟩
    clear hK K
    try simp only [Act.put,zp]
    refine zM 1 [5] ?_ ?_
    refine zK 6 rfl fun K hK=>?_
    go_simp
    have B7:=heap_alloc_last w4 (.cells #[.bool false,.slice none 0 0,.int .i64 0] 24)
    have HS7:Hid ((w4.alloc (.cells #[.bool false,.slice none 0 0,.int .i64 0] 24)).heap.size=w4.heap.size+1):=by rw [Hid]; simp
    have c2':Below wr.heap.size wr (w4.alloc (.cells #[.bool false,.slice none 0 0,.int .i64 0] 24)):=c1.alloc c1.size _
    have J2a:=Lib.hid (HI.out.alloc (Nat.le_refl _) (.cells #[.bool false,.slice none 0 0,.int .i64 0] 24))
    have hg7:wr.heap.size<=w4.heap.size:=hs4
    generalize hw7:w4.alloc (.cells #[.bool false,.slice none 0 0,.int .i64 0] 24)=w7 at *
    generalize hg:w4.heap.size=g7 at *
    try clear hw7
    refine hK _ _ ⟨fun _ _ p hp=>c2'.block p hp,?_⟩
    clear hK K
    try simp only [Act.put,zp]
    obtain⟨⟨p1,p2,p3⟩,p4,p5,p6⟩:=qam B7
    refine zK 7 rfl fun K hK=>?_
    go_simp
    refine hK _ _ ⟨fun h=>absurd h (by decide),?_⟩
    clear hK K
    try simp only [Act.put,zp]
    refine qa2 (by kernel_rfl) ?_ _
    clear p1 p2 p3 p4 p5 p6
    have q7:=qeq B7 (.bool s) (.slice A2 n2 c2) (.int .i64 kj)
    have d7:=qay c2' (by omega:wr.heap.size<=g7) (.bool s) (.slice A2 n2 c2) (.int .i64 kj)
    have J2:=Lib.hid (qby (J2a.out.more (lo':=w.heap.size+2) (hi':=g7) (by have:=HS1.out; show w.heap.size+2<=wr.heap.size; omega) (Nat.le_refl _)) (g:=g7) (.inr (Nat.le_refl _)) (.bool s) (.slice A2 n2 c2) (.int .i64 kj))
    have sz7:(((w7.setCell ⟨g7,0,none⟩ (.bool s)).setCell ⟨g7,1,none⟩ (.slice A2 n2 c2)).setCell ⟨g7,2,none⟩ (.int .i64 kj)).heap.size=w7.heap.size:=qbw _ _ _
    generalize ((w7.setCell ⟨g7,0,none⟩ (.bool s)).setCell ⟨g7,1,none⟩ (.slice A2 n2 c2)).setCell ⟨g7,2,none⟩ (.int .i64 kj)=w8 at *
    have hs8:w8.heap.size=g7+1:=by rw [sz7]; exact HS7.out
    replace J2:=Lib.hid (J2.out.more (lo':=w.heap.size+2) (hi':=w8.heap.size) (Nat.le_refl _) (by omega))
    have L8:w.heap.size+3<=w8.heap.size:=by have:=HS1.out; omega
    have HS8:=Lib.hid hs8
    have e8:=b1.trans (d7.mono (by have:=HS1.out; omega))
    have X5:=qdq X2 d7 (by have:=HS1.out; omega)
    clear sz7 hs8
    clear B7
    by_cases hM:m < qjq/\kj<=1024
    . have hmay:=Lib.hid ((qdv (s:=s) hm hko.out).2 hM)
      have hf:=HF.out
      rw [qa4,if_neg hv0,HST.out,if_pos hM] at hf
      injection hf with hr hc
      subst hr
      subst hc
      clear HF hM hko hm
      have J:=Lib.hid (J2.out.more (lo':=0) (hi':=w8.heap.size) (Nat.zero_le _) (Nat.le_refl _))
      obtain⟨⟨p1,p2,p3⟩,p4,p5,p6⟩:=qam q7
      go_wp2_with fail
      refine (qhh w8 0 w8.heap.size s A2 n2 c2 _ _ J.out (Nat.le_refl _) hmay.out).mono ?_
      rintro e w9 ⟨rfl,hB⟩
      clear p1 p2 p3 p4 p5 p6
      have hs9:=hB.size
      have q9:=qdq q7 hB (by have:=HS8.out; omega)
      clear q7
      have X9:=qdq X5 hB (by have:=HS1.out; omega)
      obtain⟨⟨p1,p2,p3⟩,p4,p5,p6⟩:=qam q9
      obtain⟨⟨z1,z2,z3⟩,z4,z5,z6⟩:=qam X9
      go_wp2
      refine bodyPost_ret (v:=.tuple #[.agg #[.bool s,.slice A2 n2 c2,.int .i64 kj],.int .i64 0]) (by simp [results,Tryz.results148,go_sem,z1,z2,z3]) rfl ⟨A2,n2,c2,rfl,hc2,?_,?_⟩
      . exact qay (e8.trans (hB.mono (by omega))) (by omega) _ _ _
      exact (qby ((J2.out.below hB (Nat.le_refl _)).more (Nat.le_refl _) hB.size) (.inl (by have:=HS1.out; omega)) _ _ _).more (by omega) (by rw [qbw]; exact Nat.le_refl _)
    have hmay:=Lib.hid (fun q=>hM ((qdv (s:=s) hm hko.out).1 q))
    have hf:=HF.out
    rw [qa4,if_neg hv0,HST.out,if_neg hM] at hf
    injection hf with hr hc
    subst hr
    subst hc
    clear HF hM hko hm
    have J:=Lib.hid (J2.out.more (lo':=0) (hi':=w8.heap.size) (Nat.zero_le _) (Nat.le_refl _))
    obtain⟨⟨p1,p2,p3⟩,p4,p5,p6⟩:=qam q7
    go_wp2_with fail
    refine (qfg w8 0 w8.heap.size s A2 n2 c2 _ _ J.out (Nat.le_refl _) hmay.out).mono ?_
    rintro e w9 ⟨rfl,hB⟩
    clear p1 p2 p3 p4 p5 p6
    have hs9:=hB.size
    have q9:=qdq q7 hB (by have:=HS8.out; omega)
    clear q7
    have X9:=qdq X5 hB (by have:=HS1.out; omega)
    obtain⟨⟨p1,p2,p3⟩,p4,p5,p6⟩:=qam q9
    obtain⟨⟨z1,z2,z3⟩,z4,z5,z6⟩:=qam X9
    go_wp2
    refine bodyPost_ret (v:=.tuple #[.agg #[.bool false,.slice none 0 0,.int .i64 0],.int .i64 10]) (by simp [results,Tryz.results148,go_sem,z1,z2,z3]) rfl ⟨none,0,0,rfl,Nat.le_refl _,?_,qae.nil_ ..⟩
    exact qay (e8.trans (hB.mono (by omega))) (by omega) _ _ _
   case al1 =>
    go_simp
    have B7:(wr.alloc (.cells #[.bool false,.slice none 0 0,.int .i64 0] 24)).drew.heap[wr.heap.size]? = some (.cells #[.bool false,.slice none 0 0,.int .i64 0] 24 (0,0)):=heap_alloc_last wr (.cells #[.bool false,.slice none 0 0,.int .i64 0] 24)
    have HS7':Hid ((wr.alloc (.cells #[.bool false,.slice none 0 0,.int .i64 0] 24)).drew.heap.size=wr.heap.size+1):=by rw [Hid]; show (wr.alloc (.cells #[.bool false,.slice none 0 0,.int .i64 0] 24)).heap.size=_; simp
    have c2':Below wr.heap.size wr (wr.alloc (.cells #[.bool false,.slice none 0 0,.int .i64 0] 24)).drew:=((Below.refl _ _).alloc (Nat.le_refl _) _).drew
    have hIj2:qae (wr.alloc (.cells #[.bool false,.slice none 0 0,.int .i64 0] 24)).drew 0 w.heap.size .u8 (some ⟨b,off,none⟩) nj (qaf 2 m):=(hIj.alloc (by have:=HS1.out; omega) (.cells #[.bool false,.slice none 0 0,.int .i64 0] 24)).drewN 1
    generalize hw7:(wr.alloc (.cells #[.bool false,.slice none 0 0,.int .i64 0] 24)).drew=w6 at *
    try clear hw7
    refine hK _ _ ⟨fun _ _ p hp=>c2'.block p hp,?_⟩
    clear hK K
    try simp only [Act.put,zp]
    refine zK 3 rfl fun K hK=>?_
    go_simp
    go_at_call 188
    refine (qfa w6 0 w.heap.size (some ⟨b,off,none⟩) nj cj (qaf 2 m) hIj2 qkf hncj (by have:=HS1.out; have:=HS7'.out; omega) (by omega) m qhn).mono ?_
    rintro e w4 ⟨A2,n2,c2,rfl,hc2,hB,hI⟩
    have HI:=Lib.hid hI
    have hs4:w6.heap.size<=w4.heap.size:=hB.size
    clear hI
    have c1:=c2'.trans (hB.mono (by have:=HS7'.out; omega))
    replace B7:=qdq B7 hB (by have:=HS7'.out; omega)
    clear hB
    refine hK _ _ ⟨fun _ _ p hp=>c1.block p hp,?_⟩
    clear hK K
    try simp only [Act.put,zp]
    refine zM 1 [5] ?_ ?_
    obtain⟨⟨p1,p2,p3⟩,p4,p5,p6⟩:=qam B7
    refine zK 7 rfl fun K hK=>?_
    go_simp
    refine hK _ _ ⟨fun h=>absurd h (by decide),?_⟩
    clear hK K
    try simp only [Act.put,zp]
    refine qa2 (by kernel_rfl) ?_ _
    clear p1 p2 p3 p4 p5 p6
    have q7:=qeq B7 (.bool s) (.slice A2 n2 c2) (.int .i64 kj)
    have d7:=qay c1 (by omega:wr.heap.size<=wr.heap.size) (.bool s) (.slice A2 n2 c2) (.int .i64 kj)
    have J2:=Lib.hid (qby (HI.out.more (lo':=wr.heap.size+1) (hi':=w4.heap.size) (by have:=HS7'.out; omega) (Nat.le_refl _)) (g:=wr.heap.size) (.inl (by omega)) (.bool s) (.slice A2 n2 c2) (.int .i64 kj))
    have sz7:(((w4.setCell ⟨wr.heap.size,0,none⟩ (.bool s)).setCell ⟨wr.heap.size,1,none⟩ (.slice A2 n2 c2)).setCell ⟨wr.heap.size,2,none⟩ (.int .i64 kj)).heap.size=w4.heap.size:=qbw _ _ _
    generalize ((w4.setCell ⟨wr.heap.size,0,none⟩ (.bool s)).setCell ⟨wr.heap.size,1,none⟩ (.slice A2 n2 c2)).setCell ⟨wr.heap.size,2,none⟩ (.int .i64 kj)=w8 at *
    have hs8:w8.heap.size=w4.heap.size:=sz7
    replace J2:=Lib.hid (J2.out.more (lo':=w.heap.size+2) (hi':=w8.heap.size) (by have:=HS1.out; omega) (by omega))
    have hw6s:=HS7'.out
    have L8:w.heap.size+3<=w8.heap.size:=by have:=HS1.out; omega
    have HS8:=Lib.hid hs8
    have e8:=b1.trans (d7.mono (by have:=HS1.out; omega))
    have X5:=qdq X2 d7 (by have:=HS1.out; omega)
    clear sz7 hs8
    clear B7
    by_cases hM:m < qjq/\kj<=1024
    . have hmay:=Lib.hid ((qdv (s:=s) hm hko.out).2 hM)
      have hf:=HF.out
      rw [qa4,if_neg hv0,HST.out,if_pos hM] at hf
      injection hf with hr hc
      subst hr
      subst hc
      clear HF hM hko hm
      have J:=Lib.hid (J2.out.more (lo':=0) (hi':=w8.heap.size) (Nat.zero_le _) (Nat.le_refl _))
      obtain⟨⟨p1,p2,p3⟩,p4,p5,p6⟩:=qam q7
      go_wp2_with fail
      refine (qhh w8 0 w8.heap.size s A2 n2 c2 _ _ J.out (Nat.le_refl _) hmay.out).mono ?_
      rintro e w9 ⟨rfl,hB⟩
      clear p1 p2 p3 p4 p5 p6
      have hs9:=hB.size
      have q9:=qdq q7 hB (by have:=HS8.out; omega)
      clear q7
      have X9:=qdq X5 hB (by have:=HS1.out; omega)
      obtain⟨⟨p1,p2,p3⟩,p4,p5,p6⟩:=qam q9
      obtain⟨⟨z1,z2,z3⟩,z4,z5,z6⟩:=qam X9
      go_wp2
      refine bodyPost_ret (v:=.tuple #[.agg #[.bool s,.slice A2 n2 c2,.int .i64 kj],.int .i64 0]) (by simp [results,Tryz.results148,go_sem,z1,z2,z3]) rfl ⟨A2,n2,c2,rfl,hc2,?_,?_⟩
      . exact qay (e8.trans (hB.mono (by omega))) (by omega) _ _ _
      exact (qby ((J2.out.below hB (Nat.le_refl _)).more (Nat.le_refl _) hB.size) (.inl (by have:=HS1.out; omega)) _ _ _).more (by omega) (by rw [qbw]; exact Nat.le_refl _)
    have hmay:=Lib.hid (fun q=>hM ((qdv (s:=s) hm hko.out).1 q))
    have hf:=HF.out
    rw [qa4,if_neg hv0,HST.out,if_neg hM] at hf
    injection hf with hr hc
    subst hr
    subst hc
    clear HF hM hko hm
    have J:=Lib.hid (J2.out.more (lo':=0) (hi':=w8.heap.size) (Nat.zero_le _) (Nat.le_refl _))
    obtain⟨⟨p1,p2,p3⟩,p4,p5,p6⟩:=qam q7
    go_wp2_with fail
    refine (qfg w8 0 w8.heap.size s A2 n2 c2 _ _ J.out (Nat.le_refl _) hmay.out).mono ?_
    rintro e w9 ⟨rfl,hB⟩
    clear p1 p2 p3 p4 p5 p6
    have hs9:=hB.size
    have q9:=qdq q7 hB (by have:=HS8.out; omega)
    clear q7
    have X9:=qdq X5 hB (by have:=HS1.out; omega)
    obtain⟨⟨p1,p2,p3⟩,p4,p5,p6⟩:=qam q9
    obtain⟨⟨z1,z2,z3⟩,z4,z5,z6⟩:=qam X9
    go_wp2
    refine bodyPost_ret (v:=.tuple #[.agg #[.bool false,.slice none 0 0,.int .i64 0],.int .i64 10]) (by simp [results,Tryz.results148,go_sem,z1,z2,z3]) rfl ⟨none,0,0,rfl,Nat.le_refl _,?_,qae.nil_ ..⟩
    exact qay (e8.trans (hB.mono (by omega))) (by omega) _ _ _
 have hk1:0 < kj:=by omega
 clear hk0
 rcases Nat.mod_two_eq_zero_or_one m with hpar|hpar
 . rw [hpar] at g1
   have hsub:IntKind.i64.wrap ((kj:Int)-1)=((kj-1:Nat):Int):=by rw [IntKind.wrap_i64]; omega
   have hst2:qci kj m=qci (kj-1) (m/2):=by (obtain⟨j,rfl⟩:∃ j,kj=j+1:=⟨kj-1,by omega⟩); exact qrk hpar
   replace HST:=Lib.hid (hst2.symm.trans HST.out)
   clear hst2
   rw [qep hm] at hIj
   have hm2:m/2≠0:=by omega
   obtain⟨hnt,bt,ot,et,hbt,hxt,hcut⟩:=qu2 hIj
   injection et with et
   injection et with et1 et2 et3
   subst et1
   subst et2
   clear et3 hxt hbt hnt hpar hm
   have HCUT:=Lib.hid hcut
   clear hcut hIj
   have HSUB:=Lib.hid hsub
   by_cases h1:cj=1
   . subst h1
     obtain rfl:nj=1:=by omega
     go_wp2
     go_roundw
     case rel=>exact⟨kj-1,m/2,_,_,_,by first | rfl | (congr 1; omega) | (rw [<-HSUB.out]; done) | simp,rfl,by omega,hm2,HST,by first | omega | simp,by first | omega | simp,HCUT.out _ (.inl (by first | rfl | trivial | simp)),by trivial⟩
     case measure=>first | (simp [intOf]; done) | (simp [intOf]; omega)
   go_wp2
   go_roundw
   case rel=>exact⟨kj-1,m/2,_,_,_,by first | rfl | (congr 1; omega) | (rw [<-HSUB.out]; done) | simp,rfl,by omega,hm2,HST,by omega,by omega,HCUT.out _ (.inr rfl),by trivial⟩
   case measure=>first | (simp [intOf]; done) | (simp [intOf]; omega)
 have hko:Hid (kj=0∨m%2=1):=Lib.hid (.inr hpar)
 rw [hpar] at g1
 replace HST:=Lib.hid (HST.out.symm.trans (show qci kj m=(m,kj) by (obtain⟨j,rfl⟩:∃ j,kj=j+1:=⟨kj-1,by omega⟩); exact qto hpar))
 clear hpar
 go_wp2_with fail
 have kD:qan wr wr.drew:=fun _ _=>rfl
 have c0:Below wr.heap.size wr wr.drew:=(Below.refl _ _).drew
 refine zB (qan wr) [7] 8 ?_
 refine zM 1 [0] ?_ ?_
 refine zD 1 (.bool s) rfl ?hyA2 ?restA2
 case hyA2 =>
  intro w' h1
  obtain⟨⟨k1,k2⟩,_⟩:=qfq ((h1 _ (by have:=HS1.out; omega)).trans X1)
  go_simp
 try simp only [Act.put,zp]
 refine zM 2 [2,4] ?_ ?_
 refine qi0 (i:=3) (j:=6) (Li:=#[zT,zT,zT,zT,zT,zF,zF,zF]) (Lj:=#[zT,zT,zT,zF,zT,zF,zT,zF]) rfl rfl (by rfl) (by rfl) (by kernel_rfl) (by rfl) (by rfl) (fun K hK=>?lm2) (fun K hK=>?al2)
 case lm2 =>
  go_simp
  go_at_call 188
  refine (qfa wr.drew 0 w.heap.size (some ⟨b,off,none⟩) nj cj (qaf 2 m) (hIj.drewN 1) qkf hncj (by show w.heap.size<=wr.heap.size; have:=HS1.out; omega) (by omega) m qhn).mono ?_
  rintro e w4 ⟨A2,n2,c2,rfl,hc2,hB,hI⟩
  have HI:=Lib.hid hI
  have hs4:wr.heap.size<=w4.heap.size:=hB.size
  clear hI
  have c1:=c0.trans hB
  clear hB
  refine hK _ _ ⟨fun _ _ p hp=>c1.block p hp,?_⟩
  clear hK K
  try simp only [Act.put,zp]
  refine zM 1 [5] ?_ ?_
  refine zK 6 rfl fun K hK=>?_
  go_simp
  have B7:=heap_alloc_last w4 (.cells #[.bool false,.slice none 0 0,.int .i64 0] 24)
  have HS7:Hid ((w4.alloc (.cells #[.bool false,.slice none 0 0,.int .i64 0] 24)).heap.size=w4.heap.size+1):=by rw [Hid]; simp
  have c2':Below wr.heap.size wr (w4.alloc (.cells #[.bool false,.slice none 0 0,.int .i64 0] 24)):=c1.alloc c1.size _
  have J2a:=Lib.hid (HI.out.alloc (Nat.le_refl _) (.cells #[.bool false,.slice none 0 0,.int .i64 0] 24))
  have hg7:wr.heap.size<=w4.heap.size:=hs4
  generalize hw7:w4.alloc (.cells #[.bool false,.slice none 0 0,.int .i64 0] 24)=w7 at *
  generalize hg:w4.heap.size=g7 at *
  try clear hw7
  refine hK _ _ ⟨fun _ _ p hp=>c2'.block p hp,?_⟩
  clear hK K
  try simp only [Act.put,zp]
  obtain⟨⟨p1,p2,p3⟩,p4,p5,p6⟩:=qam B7
  refine zK 7 rfl fun K hK=>?_
  go_simp
  refine hK _ _ ⟨fun h=>absurd h (by decide),?_⟩
  clear hK K
  try simp only [Act.put,zp]
  refine qa2 (by kernel_rfl) ?_ _
  clear p1 p2 p3 p4 p5 p6
  have q7:=qeq B7 (.bool s) (.slice A2 n2 c2) (.int .i64 kj)
  have d7:=qay c2' (by omega:wr.heap.size<=g7) (.bool s) (.slice A2 n2 c2) (.int .i64 kj)
  have J2:=Lib.hid (qby (J2a.out.more (lo':=w.heap.size+2) (hi':=g7) (by have:=HS1.out; show w.heap.size+2<=wr.heap.size; omega) (Nat.le_refl _)) (g:=g7) (.inr (Nat.le_refl _)) (.bool s) (.slice A2 n2 c2) (.int .i64 kj))
  have sz7:(((w7.setCell ⟨g7,0,none⟩ (.bool s)).setCell ⟨g7,1,none⟩ (.slice A2 n2 c2)).setCell ⟨g7,2,none⟩ (.int .i64 kj)).heap.size=w7.heap.size:=qbw _ _ _
  generalize ((w7.setCell ⟨g7,0,none⟩ (.bool s)).setCell ⟨g7,1,none⟩ (.slice A2 n2 c2)).setCell ⟨g7,2,none⟩ (.int .i64 kj)=w8 at *
  have hs8:w8.heap.size=g7+1:=by rw [sz7]; exact HS7.out
  replace J2:=Lib.hid (J2.out.more (lo':=w.heap.size+2) (hi':=w8.heap.size) (Nat.le_refl _) (by omega))
  have L8:w.heap.size+3<=w8.heap.size:=by have:=HS1.out; omega
  have HS8:=Lib.hid hs8
  have e8:=b1.trans (d7.mono (by have:=HS1.out; omega))
  have X5:=qdq X2 d7 (by have:=HS1.out; omega)
  clear sz7 hs8
  clear B7
  by_cases hM:m < qjq/\kj<=1024
  . have hmay:=Lib.hid ((qdv (s:=s) hm hko.out).2 hM)
    have hf:=HF.out
    rw [qa4,if_neg hv0,HST.out,if_pos hM] at hf
    injection hf with hr hc
    subst hr
    subst hc
    clear HF hM hko hm
    have J:=Lib.hid (J2.out.more (lo':=0) (hi':=w8.heap.size) (Nat.zero_le _) (Nat.le_refl _))
    obtain⟨⟨p1,p2,p3⟩,p4,p5,p6⟩:=qam q7
    go_wp2_with fail
    refine (qhh w8 0 w8.heap.size s A2 n2 c2 _ _ J.out (Nat.le_refl _) hmay.out).mono ?_
    rintro e w9 ⟨rfl,hB⟩
    clear p1 p2 p3 p4 p5 p6
    have hs9:=hB.size
    have q9:=qdq q7 hB (by have:=HS8.out; omega)
    clear q7
    have X9:=qdq X5 hB (by have:=HS1.out; omega)
    obtain⟨⟨p1,p2,p3⟩,p4,p5,p6⟩:=qam q9
    obtain⟨⟨z1,z2,z3⟩,z4,z5,z6⟩:=qam X9
    go_wp2
    refine bodyPost_ret (v:=.tuple #[.agg #[.bool s,.slice A2 n2 c2,.int .i64 kj],.int .i64 0]) (by simp [results,Tryz.results148,go_sem,z1,z2,z3]) rfl ⟨A2,n2,c2,rfl,hc2,?_,?_⟩
    . exact qay (e8.trans (hB.mono (by omega))) (by omega) _ _ _
    exact (qby ((J2.out.below hB (Nat.le_refl _)).more (Nat.le_refl _) hB.size) (.inl (by have:=HS1.out; omega)) _ _ _).more (by omega) (by rw [qbw]; exact Nat.le_refl _)
  have hmay:=Lib.hid (fun q=>hM ((qdv (s:=s) hm hko.out).1 q))
  have hf:=HF.out
  rw [qa4,if_neg hv0,HST.out,if_neg hM] at hf
  injection hf with hr hc
  subst hr
  subst hc
  clear HF hM hko hm
  have J:=Lib.hid (J2.out.more (lo':=0) (hi':=w8.heap.size) (Nat.zero_le _) (Nat.le_refl _))
  obtain⟨⟨p1,p2,p3⟩,p4,p5,p6⟩:=qam q7
  go_wp2_with fail
  refine (qfg w8 0 w8.heap.size s A2 n2 c2 _ _ J.out (Nat.le_refl _) hmay.out).mono ?_
  rintro e w9 ⟨rfl,hB⟩
  clear p1 p2 p3 p4 p5 p6
  have hs9:=hB.size
  have q9:=qdq q7 hB (by have:=HS8.out; omega)
  clear q7
  have X9:=qdq X5 hB (by have:=HS1.out; omega)
  obtain⟨⟨p1,p2,p3⟩,p4,p5,p6⟩:=qam q9
  obtain⟨⟨z1,z2,z3⟩,z4,z5,z6⟩:=qam X9
  go_wp2
  refine bodyPost_ret (v:=.tuple #[.agg #[.bool false,.slice none 0 0,.int .i64 0],.int .i64 10]) (by simp [results,Tryz.results148,go_sem,z1,z2,z3]) rfl ⟨none,0,0,rfl,Nat.le_refl _,?_,qae.nil_ ..⟩
  exact qay (e8.trans (hB.mono (by omega))) (by omega) _ _ _
 case al2 =>
  go_simp
  have B7:(wr.alloc (.cells #[.bool false,.slice none 0 0,.int .i64 0] 24)).drew.heap[wr.heap.size]? = some (.cells #[.bool false,.slice none 0 0,.int .i64 0] 24 (0,0)):=heap_alloc_last wr (.cells #[.bool false,.slice none 0 0,.int .i64 0] 24)
  have HS7':Hid ((wr.alloc (.cells #[.bool false,.slice none 0 0,.int .i64 0] 24)).drew.heap.size=wr.heap.size+1):=by rw [Hid]; show (wr.alloc (.cells #[.bool false,.slice none 0 0,.int .i64 0] 24)).heap.size=_; simp
  have c2':Below wr.heap.size wr (wr.alloc (.cells #[.bool false,.slice none 0 0,.int .i64 0] 24)).drew:=((Below.refl _ _).alloc (Nat.le_refl _) _).drew
  have hIj2:qae (wr.alloc (.cells #[.bool false,.slice none 0 0,.int .i64 0] 24)).drew 0 w.heap.size .u8 (some ⟨b,off,none⟩) nj (qaf 2 m):=(hIj.alloc (by have:=HS1.out; omega) (.cells #[.bool false,.slice none 0 0,.int .i64 0] 24)).drewN 1
  generalize hw7:(wr.alloc (.cells #[.bool false,.slice none 0 0,.int .i64 0] 24)).drew=w6 at *
  try clear hw7
  refine hK _ _ ⟨fun _ _ p hp=>c2'.block p hp,?_⟩
  clear hK K
  try simp only [Act.put,zp]
  refine zK 3 rfl fun K hK=>?_
  go_simp
  go_at_call 188
  refine (qfa w6 0 w.heap.size (some ⟨b,off,none⟩) nj cj (qaf 2 m) hIj2 qkf hncj (by have:=HS1.out; have:=HS7'.out; omega) (by omega) m qhn).mono ?_
  rintro e w4 ⟨A2,n2,c2,rfl,hc2,hB,hI⟩
  have HI:=Lib.hid hI
  have hs4:w6.heap.size<=w4.heap.size:=hB.size
  clear hI
  have c1:=c2'.trans (hB.mono (by have:=HS7'.out; omega))
  replace B7:=qdq B7 hB (by have:=HS7'.out; omega)
  clear hB
  refine hK _ _ ⟨fun _ _ p hp=>c1.block p hp,?_⟩
  clear hK K
  try simp only [Act.put,zp]
  refine zM 1 [5] ?_ ?_
  obtain⟨⟨p1,p2,p3⟩,p4,p5,p6⟩:=qam B7
  refine zK 7 rfl fun K hK=>?_
  go_simp
  refine hK _ _ ⟨fun h=>absurd h (by decide),?_⟩
  clear hK K
  try simp only [Act.put,zp]
  refine qa2 (by kernel_rfl) ?_ _
  clear p1 p2 p3 p4 p5 p6
  have q7:=qeq B7 (.bool s) (.slice A2 n2 c2) (.int .i64 kj)
  have d7:=qay c1 (by omega:wr.heap.size<=wr.heap.size) (.bool s) (.slice A2 n2 c2) (.int .i64 kj)
  have J2:=Lib.hid (qby (HI.out.more (lo':=wr.heap.size+1) (hi':=w4.heap.size) (by have:=HS7'.out; omega) (Nat.le_refl _)) (g:=wr.heap.size) (.inl (by omega)) (.bool s) (.slice A2 n2 c2) (.int .i64 kj))
  have sz7:(((w4.setCell ⟨wr.heap.size,0,none⟩ (.bool s)).setCell ⟨wr.heap.size,1,none⟩ (.slice A2 n2 c2)).setCell ⟨wr.heap.size,2,none⟩ (.int .i64 kj)).heap.size=w4.heap.size:=qbw _ _ _
  generalize ((w4.setCell ⟨wr.heap.size,0,none⟩ (.bool s)).setCell ⟨wr.heap.size,1,none⟩ (.slice A2 n2 c2)).setCell ⟨wr.heap.size,2,none⟩ (.int .i64 kj)=w8 at *
  have hs8:w8.heap.size=w4.heap.size:=sz7
  replace J2:=Lib.hid (J2.out.more (lo':=w.heap.size+2) (hi':=w8.heap.size) (by have:=HS1.out; omega) (by omega))
  have hw6s:=HS7'.out
  have L8:w.heap.size+3<=w8.heap.size:=by have:=HS1.out; omega
  have HS8:=Lib.hid hs8
  have e8:=b1.trans (d7.mono (by have:=HS1.out; omega))
  have X5:=qdq X2 d7 (by have:=HS1.out; omega)
  clear sz7 hs8
  clear B7
  by_cases hM:m < qjq/\kj<=1024
  . have hmay:=Lib.hid ((qdv (s:=s) hm hko.out).2 hM)
    have hf:=HF.out
    rw [qa4,if_neg hv0,HST.out,if_pos hM] at hf
    injection hf with hr hc
    subst hr
    subst hc
    clear HF hM hko hm
    have J:=Lib.hid (J2.out.more (lo':=0) (hi':=w8.heap.size) (Nat.zero_le _) (Nat.le_refl _))
    obtain⟨⟨p1,p2,p3⟩,p4,p5,p6⟩:=qam q7
    go_wp2_with fail
    refine (qhh w8 0 w8.heap.size s A2 n2 c2 _ _ J.out (Nat.le_refl _) hmay.out).mono ?_
    rintro e w9 ⟨rfl,hB⟩
    clear p1 p2 p3 p4 p5 p6
    have hs9:=hB.size
    have q9:=qdq q7 hB (by have:=HS8.out; omega)
    clear q7
    have X9:=qdq X5 hB (by have:=HS1.out; omega)
    obtain⟨⟨p1,p2,p3⟩,p4,p5,p6⟩:=qam q9
    obtain⟨⟨z1,z2,z3⟩,z4,z5,z6⟩:=qam X9
    go_wp2
    refine bodyPost_ret (v:=.tuple #[.agg #[.bool s,.slice A2 n2 c2,.int .i64 kj],.int .i64 0]) (by simp [results,Tryz.results148,go_sem,z1,z2,z3]) rfl ⟨A2,n2,c2,rfl,hc2,?_,?_⟩
    . exact qay (e8.trans (hB.mono (by omega))) (by omega) _ _ _
    exact (qby ((J2.out.below hB (Nat.le_refl _)).more (Nat.le_refl _) hB.size) (.inl (by have:=HS1.out; omega)) _ _ _).more (by omega) (by rw [qbw]; exact Nat.le_refl _)
  have hmay:=Lib.hid (fun q=>hM ((qdv (s:=s) hm hko.out).1 q))
  have hf:=HF.out
  rw [qa4,if_neg hv0,HST.out,if_neg hM] at hf
  injection hf with hr hc
  subst hr
  subst hc
  clear HF hM hko hm
  have J:=Lib.hid (J2.out.more (lo':=0) (hi':=w8.heap.size) (Nat.zero_le _) (Nat.le_refl _))
  obtain⟨⟨p1,p2,p3⟩,p4,p5,p6⟩:=qam q7
  go_wp2_with fail
  refine (qfg w8 0 w8.heap.size s A2 n2 c2 _ _ J.out (Nat.le_refl _) hmay.out).mono ?_
  rintro e w9 ⟨rfl,hB⟩
  clear p1 p2 p3 p4 p5 p6
  have hs9:=hB.size
  have q9:=qdq q7 hB (by have:=HS8.out; omega)
  clear q7
  have X9:=qdq X5 hB (by have:=HS1.out; omega)
  obtain⟨⟨p1,p2,p3⟩,p4,p5,p6⟩:=qam q9
  obtain⟨⟨z1,z2,z3⟩,z4,z5,z6⟩:=qam X9
  go_wp2
  refine bodyPost_ret (v:=.tuple #[.agg #[.bool false,.slice none 0 0,.int .i64 0],.int .i64 10]) (by simp [results,Tryz.results148,go_sem,z1,z2,z3]) rfl ⟨none,0,0,rfl,Nat.le_refl _,?_,qae.nil_ ..⟩
  exact qay (e8.trans (hB.mono (by omega))) (by omega) _ _ _
theorem qdy(w:World)(o1 o2:Obj){w1:World}(hw:(w.alloc o1).alloc o2=w1):w1.heap[w.heap.size]? = some o1/\w1.heap[w.heap.size+1]? = some o2/\Below w.heap.size w w1/\w.heap.size+2<=w1.heap.size/\w1.heap.size<=w.heap.size+2:=by
 subst hw
 exact⟨by rw [Below.heap_alloc _ _ _ (by simp)]; exact heap_alloc_last _ _,heap_alloc2_new _ _ _,((Below.refl _ w).alloc (Nat.le_refl _) _).alloc (by simp) _,by simp,by simp⟩
theorem q1y(w:World)(o1 o2 o3:Obj){w1:World}(hw:((w.alloc o1).alloc o2).alloc o3=w1):w1.heap[w.heap.size]? = some o1/\w1.heap[w.heap.size+1]? = some o2/\w1.heap[w.heap.size+1+1]? = some o3/\Below w.heap.size w w1/\w.heap.size+3<=w1.heap.size/\w1.heap.size<=w.heap.size+3:=by
 obtain⟨h1,h2,h3,h4,h5⟩:=qdy w o1 o2 rfl
 subst hw
 refine⟨(Below.heap_alloc _ _ _ (by omega)).trans h1,(Below.heap_alloc _ _ _ (by omega)).trans h2,?_,h3.alloc (by omega) _,by simp,by simp⟩
 have e:w.heap.size+1+1=((w.alloc o1).alloc o2).heap.size:=by omega
 rw [e]
 exact heap_alloc_last _ _
theorem qt1(w:World)(s1:Bool)(A1:Option Addr)(n1 c1:Nat)(xs1:List Int)(e1:Int)(h1:qae w 0 w.heap.size .u32 A1 n1 xs1)(h:¬ qik s1 xs1 e1) :
  Calls Tryz.prog 152 #[.agg #[.bool s1,.slice A1 n1 c1,.int .i64 e1]] w (Bad w):=by
 generalize hw:(w.alloc (.cells #[.bool s1,.slice A1 n1 c1,.int .i64 e1] 24)).alloc (.cells #[.bool false,.slice none 0 0,.int .i64 0] 24)=w1 at *
 obtain⟨D1,D2,b1,l1,l2⟩:=qdy w _ _ hw
 replace h1:=h1.below b1 (Nat.le_refl _)
 have M1:=Lib.hid h
 clear h
 obtain⟨⟨pD1,qD1,rD1⟩,uD1,vD1,xD1⟩:=qam D1
 go_enter Tryz.func152,Tryz.ntmps152
 go_wp2_with fail
 try clear hw
 refine (qfg w1 0 w.heap.size s1 A1 n1 c1 _ e1 h1 (by omega) M1.out).mono ?_
 rintro e' w2 ⟨rfl,hB⟩
 clear pD1 qD1 rD1 uD1 vD1 xD1
 have lw2:w1.heap.size<=w2.heap.size:=hB.size
 replace h1:=h1.below hB (by omega)
 replace D1:=(hB.block _ (by omega)).trans D1
 replace D2:=(hB.block _ (by omega)).trans D2
 have c3:=b1.trans (hB.mono (by omega))
 clear hB
 obtain⟨⟨z1,z2,z3⟩,z4,z5,z6⟩:=qam D2
 go_wp2
 exact bodyPost_ret (v:=.tuple #[.agg #[.bool false,.slice none 0 0,.int .i64 0],.int .i64 8]) (by simp [results,Tryz.results152,go_sem,z1,z2,z3]) rfl ⟨rfl,qay c3 (by omega) _ _ _⟩
theorem qxh(w:World)(a:Dn)(ha:a.May)(A1:Option Addr)(n1 c1:Nat)(h1:qae w 0 w.heap.size .u32 A1 n1 (qaf 4294967296 a.m))(r:Dn)(code:Int)(h:qgt a=(r,code)) :
  Calls Tryz.prog 152 #[.agg #[.bool a.neg,.slice A1 n1 c1,.int .i64 a.e]] w (qb0 w r code):=by
 have hn1:=qek h1 ha
 have ea:a.e<=1024:=ha.2.1
 have ma:=Lib.hid (qgy ha)
 have HF:=Lib.hid (show qa4 a.neg a.m (a.e+1)=(r,code) from h)
 have hwr:IntKind.i64.wrap ((a.e:Int)+1)=((a.e+1:Nat):Int):=by rw [IntKind.wrap_i64]; omega
 have HW:=Lib.hid hwr
 have hx:2^(a.e-a.e)*a.m=a.m:=by rw [Nat.sub_self,Nat.pow_zero,Nat.one_mul]
 have HX:=Lib.hid hx
 clear hwr h hx ha
 generalize hw:(w.alloc (.cells #[.bool a.neg,.slice A1 n1 c1,.int .i64 a.e] 24)).alloc (.cells #[.bool false,.slice none 0 0,.int .i64 0] 24)=w1 at *
 obtain⟨D1,D2,b1,l1,l2⟩:=qdy w _ _ hw
 replace h1:=h1.below b1 (Nat.le_refl _)
 obtain⟨⟨pD1,qD1,rD1⟩,uD1,vD1,xD1⟩:=qam D1
 go_enter Tryz.func152,Tryz.ntmps152
 go_wp2_with fail
 try clear hw
 refine (qhh w1 0 w.heap.size a.neg A1 n1 c1 _ a.e h1 (by omega) ma.out).mono ?_
 rintro e' w2 ⟨rfl,hB⟩
 clear pD1 qD1 rD1 uD1 vD1 xD1
 have lw2:w1.heap.size<=w2.heap.size:=hB.size
 replace h1:=h1.below hB (by omega)
 replace D1:=(hB.block _ (by omega)).trans D1
 replace D2:=(hB.block _ (by omega)).trans D2
 have c3:=b1.trans (hB.mono (by omega))
 clear hB
 go_wp2_with fail
 have kD:qan w2 w2.drew:=fun _ _=>rfl
 have hB:Below w2.heap.size w2 w2.drew:=(Below.refl _ _).drew
 refine zB (qan w2) [12] 14 ?_
 generalize w2.drew=w4 at *
 have lw4:w2.heap.size<=w4.heap.size:=hB.size
 have sv_D1:=D1
 have sv_D2:=D2
 replace h1:=h1.below hB (by omega)
 replace D1:=(hB.block _ (by omega)).trans D1
 replace D2:=(hB.block _ (by omega)).trans D2
 have hB0:=hB
 clear hB
 refine zM 2 [1,4] ?_ ?_
 refine zD 0 (.agg #[.bool a.neg,.slice A1 n1 c1,.int .i64 a.e]) rfl ?hy0_1 ?rest0_1
 case hy0_1 =>
  intro w' h1
  obtain⟨⟨k1,k2,k3⟩,_⟩:=qam ((h1 _ (by omega)).trans sv_D1)
  go_simp
 try simp only [Act.put,zp]
 refine zD 2 (.int .i64 a.e) rfl ?hy2_2 ?rest2_2
 case hy2_2 =>
  intro w' h1
  obtain⟨⟨k1,k2,k3⟩,_⟩:=qam ((h1 _ (by omega)).trans sv_D1)
  go_simp
 try simp only [Act.put,zp]
 refine zD 5 (.int .i64 a.e) rfl ?hy5_3 ?rest5_3
 case hy5_3 =>
  intro w' h1
  obtain⟨⟨k1,k2,k3⟩,_⟩:=qam ((h1 _ (by omega)).trans sv_D1)
  go_simp
 try simp only [Act.put,zp]
 have hwr:=HW.out
 refine zM 1 [6] ?_ ?_
 refine qi0 (i:=3) (j:=11) (Li:=#[zT,zT,zT,zT,zT,zT,zT,zF,zF,zF,zF,zF,zF,zF]) (Lj:=#[zT,zT,zT,zF,zT,zT,zT,zF,zF,zF,zF,zT,zF,zF]) rfl rfl (by rfl) (by rfl) (by kernel_rfl) (by rfl) (by rfl) (fun K hK=>?o3_4) (fun K hK=>?o11_4)
 case o3_4 =>
  go_simp
  go_at_call 189
  refine (qzh w4 a.neg a.m a.e A1 n1 c1 (h1.more (Nat.zero_le _) (by omega)) hn1 a.e (Nat.le_refl _) (by omega) a.m HX.out a.e rfl).mono ?_
  rintro e' w5 ⟨P1,i1,d1,rfl,lc1,ln1,hB,IN1⟩
  have lw5:w4.heap.size<=w5.heap.size:=hB.size
  replace h1:=h1.below hB (by omega)
  replace D1:=(hB.block _ (by omega)).trans D1
  replace D2:=(hB.block _ (by omega)).trans D2
  have c6:=hB0.trans (hB.mono (by omega))
  clear hB
  refine hK _ _ ⟨fun _ _ p hp=>c6.block p hp,?_⟩
  clear hK K
  try simp only [Act.put,zp]
  refine qi0 (i:=7) (j:=11) (Li:=#[zT,zT,zT,zT,zT,zT,zT,zT,zF,zF,zF,zF,zF,zF]) (Lj:=#[zT,zT,zT,zT,zT,zT,zT,zF,zF,zF,zF,zT,zF,zF]) rfl rfl (by rfl) (by rfl) (by kernel_rfl) (by rfl) (by rfl) (fun K hK=>?o7_5) (fun K hK=>?o11_5)
  case o7_5 =>
   go_simp
   go_at_call 148
   refine (qcc w5 a.neg P1 i1 d1 _ (IN1.more (Nat.zero_le _) (by omega)) qkf lc1 (by omega) (a.e+1) (by omega) _ rfl a.m qhn r code HF.out).mono ?_
   rintro e' w7 ⟨P4,i4,d4,rfl,lc4,hB,IN4⟩
   have lw7:w5.heap.size<=w7.heap.size:=hB.size
   replace h1:=h1.below hB (by omega)
   replace IN1:=IN1.below hB (by omega)
   replace D1:=(hB.block _ (by omega)).trans D1
   replace D2:=(hB.block _ (by omega)).trans D2
   have c8:=c6.trans (hB.mono (by omega))
   clear hB
   refine hK _ _ ⟨fun _ _ p hp=>c8.block p hp,?_⟩
   clear hK K
   try simp only [Act.put,zp]
   refine zM 3 [8,9,10] ?_ ?_
   refine zK 11 rfl fun K hK=>?_
   go_simp
   have hB:=(Below.refl w7.heap.size w7).alloc (Nat.le_refl _) (.cells #[.bool false,.slice none 0 0,.int .i64 0] 24)
   have D4:=heap_alloc_last w7 (.cells #[.bool false,.slice none 0 0,.int .i64 0] 24)
   have mw9:w7.heap.size < (w7.alloc (.cells #[.bool false,.slice none 0 0,.int .i64 0] 24)).heap.size:=by simp
   generalize hw:w7.alloc (.cells #[.bool false,.slice none 0 0,.int .i64 0] 24)=w9 at *
   have lw9:w7.heap.size<=w9.heap.size:=hB.size
   replace h1:=h1.below hB (by omega)
   replace IN1:=IN1.below hB (by omega)
   replace IN4:=IN4.below hB (by omega)
   replace D1:=(hB.block _ (by omega)).trans D1
   replace D2:=(hB.block _ (by omega)).trans D2
   have c10:=c8.trans (hB.mono (by omega))
   clear hB
   try clear hw
   refine hK _ _ ⟨fun _ _ p hp=>c10.block p hp,?_⟩
   clear hK K
   try simp only [Act.put,zp]
   refine zK 12 rfl fun K hK=>?_
   go_simp
   obtain⟨⟨p1,p2,p3⟩,p4,p5,p6⟩:=qam D4
   go_simp
   refine hK _ _ ⟨fun h=>absurd h (by decide),?_⟩
   clear hK K
   try simp only [Act.put,zp]
   refine zM 1 [13] ?_ ?_
   refine qa2 (by kernel_rfl) ?_ _
   clear p1 p2 p3 p4 p5 p6
   have q4:=qeq D4 (.bool r.neg) (.slice P4 i4 d4) (.int .i64 r.e)
   have d7:=qay c10 (by omega:w2.heap.size<=w7.heap.size) (.bool r.neg) (.slice P4 i4 d4) (.int .i64 r.e)
   have J4:=qby IN4 (g:=w7.heap.size) (by omega) (.bool r.neg) (.slice P4 i4 d4) (.int .i64 r.e)
   have s7:w9.heap.size<=(((w9.setCell ⟨w7.heap.size,0,none⟩ (.bool r.neg)).setCell ⟨w7.heap.size,1,none⟩ (.slice P4 i4 d4)).setCell ⟨w7.heap.size,2,none⟩ (.int .i64 r.e)).heap.size:=by rw [qbw]; exact Nat.le_refl _
   generalize hw:((w9.setCell ⟨w7.heap.size,0,none⟩ (.bool r.neg)).setCell ⟨w7.heap.size,1,none⟩ (.slice P4 i4 d4)).setCell ⟨w7.heap.size,2,none⟩ (.int .i64 r.e)=w11 at *
   try clear hw
   have e8:=c3.trans (d7.mono (by omega))
   have X9:=(d7.block _ (by omega)).trans sv_D2
   obtain⟨⟨p1,p2,p3⟩,p4,p5,p6⟩:=qam q4
   obtain⟨⟨z1,z2,z3⟩,z4,z5,z6⟩:=qam X9
   go_wp2
   refine bodyPost_ret (v:=.tuple #[.agg #[.bool r.neg,.slice P4 i4 d4,.int .i64 r.e],.int .i64 code]) (by simp [results,Tryz.results152,go_sem,z1,z2,z3]) rfl ⟨P4,i4,d4,rfl,lc4,?_,?_⟩
   . exact qay e8 (by omega) _ _ _
   exact (qby J4 (.inl (by omega)) _ _ _).more (by omega) (by rw [qbw]; omega)
  case o11_5 =>
   go_simp
   have hB:=(Below.refl w5.heap.size w5).alloc (Nat.le_refl _) (.cells #[.bool false,.slice none 0 0,.int .i64 0] 24)
   have D4:=heap_alloc_last w5 (.cells #[.bool false,.slice none 0 0,.int .i64 0] 24)
   have mw12:w5.heap.size < (w5.alloc (.cells #[.bool false,.slice none 0 0,.int .i64 0] 24)).heap.size:=by simp
   generalize hw:w5.alloc (.cells #[.bool false,.slice none 0 0,.int .i64 0] 24)=w12 at *
   have lw12:w5.heap.size<=w12.heap.size:=hB.size
   replace h1:=h1.below hB (by omega)
   replace IN1:=IN1.below hB (by omega)
   replace D1:=(hB.block _ (by omega)).trans D1
   replace D2:=(hB.block _ (by omega)).trans D2
   have c13:=c6.trans (hB.mono (by omega))
   clear hB
   try clear hw
   refine hK _ _ ⟨fun _ _ p hp=>c13.block p hp,?_⟩
   clear hK K
   try simp only [Act.put,zp]
   refine zK 7 rfl fun K hK=>?_
   go_simp
   go_at_call 148
   refine (qcc w12 a.neg P1 i1 d1 _ (IN1.more (Nat.zero_le _) (by omega)) qkf lc1 (by omega) (a.e+1) (by omega) _ rfl a.m qhn r code HF.out).mono ?_
   rintro e' w14 ⟨P4,i4,d4,rfl,lc4,hB,IN4⟩
   have lw14:w12.heap.size<=w14.heap.size:=hB.size
   replace h1:=h1.below hB (by omega)
   replace IN1:=IN1.below hB (by omega)
   replace D1:=(hB.block _ (by omega)).trans D1
   replace D2:=(hB.block _ (by omega)).trans D2
   replace D4:=(hB.block _ (by omega)).trans D4
   have c15:=c13.trans (hB.mono (by omega))
   clear hB
   refine hK _ _ ⟨fun _ _ p hp=>c15.block p hp,?_⟩
   clear hK K
   try simp only [Act.put,zp]
   refine zM 3 [8,9,10] ?_ ?_
   refine zK 12 rfl fun K hK=>?_
   go_simp
   obtain⟨⟨p1,p2,p3⟩,p4,p5,p6⟩:=qam D4
   go_simp
   refine hK _ _ ⟨fun h=>absurd h (by decide),?_⟩
   clear hK K
   try simp only [Act.put,zp]
   refine zM 1 [13] ?_ ?_
   refine qa2 (by kernel_rfl) ?_ _
   clear p1 p2 p3 p4 p5 p6
   have q4:=qeq D4 (.bool r.neg) (.slice P4 i4 d4) (.int .i64 r.e)
   have d7:=qay c15 (by omega:w2.heap.size<=w5.heap.size) (.bool r.neg) (.slice P4 i4 d4) (.int .i64 r.e)
   have J4:=qby IN4 (g:=w5.heap.size) (by omega) (.bool r.neg) (.slice P4 i4 d4) (.int .i64 r.e)
   have s7:w14.heap.size<=(((w14.setCell ⟨w5.heap.size,0,none⟩ (.bool r.neg)).setCell ⟨w5.heap.size,1,none⟩ (.slice P4 i4 d4)).setCell ⟨w5.heap.size,2,none⟩ (.int .i64 r.e)).heap.size:=by rw [qbw]; exact Nat.le_refl _
   generalize hw:((w14.setCell ⟨w5.heap.size,0,none⟩ (.bool r.neg)).setCell ⟨w5.heap.size,1,none⟩ (.slice P4 i4 d4)).setCell ⟨w5.heap.size,2,none⟩ (.int .i64 r.e)=w16 at *
   try clear hw
   have e8:=c3.trans (d7.mono (by omega))
   have X9:=(d7.block _ (by omega)).trans sv_D2
   obtain⟨⟨p1,p2,p3⟩,p4,p5,p6⟩:=qam q4
   obtain⟨⟨z1,z2,z3⟩,z4,z5,z6⟩:=qam X9
   go_wp2
   refine bodyPost_ret (v:=.tuple #[.agg #[.bool r.neg,.slice P4 i4 d4,.int .i64 r.e],.int .i64 code]) (by simp [results,Tryz.results152,go_sem,z1,z2,z3]) rfl ⟨P4,i4,d4,rfl,lc4,?_,?_⟩
   . exact qay e8 (by omega) _ _ _
   exact (qby J4 (.inl (by omega)) _ _ _).more (by omega) (by rw [qbw]; omega)
 case o11_4 =>
  go_simp
  have hB:=(Below.refl w4.heap.size w4).alloc (Nat.le_refl _) (.cells #[.bool false,.slice none 0 0,.int .i64 0] 24)
  have D4:=heap_alloc_last w4 (.cells #[.bool false,.slice none 0 0,.int .i64 0] 24)
  have mw17:w4.heap.size < (w4.alloc (.cells #[.bool false,.slice none 0 0,.int .i64 0] 24)).heap.size:=by simp
  generalize hw:w4.alloc (.cells #[.bool false,.slice none 0 0,.int .i64 0] 24)=w17 at *
  have lw17:w4.heap.size<=w17.heap.size:=hB.size
  replace h1:=h1.below hB (by omega)
  replace D1:=(hB.block _ (by omega)).trans D1
  replace D2:=(hB.block _ (by omega)).trans D2
  have c18:=hB0.trans (hB.mono (by omega))
  clear hB
  try clear hw
  refine hK _ _ ⟨fun _ _ p hp=>c18.block p hp,?_⟩
  clear hK K
  try simp only [Act.put,zp]
  refine zK 3 rfl fun K hK=>?_
  go_simp
  go_at_call 189
  refine (qzh w17 a.neg a.m a.e A1 n1 c1 (h1.more (Nat.zero_le _) (by omega)) hn1 a.e (Nat.le_refl _) (by omega) a.m HX.out a.e rfl).mono ?_
  rintro e' w19 ⟨P1,i1,d1,rfl,lc1,ln1,hB,IN1⟩
  have lw19:w17.heap.size<=w19.heap.size:=hB.size
  replace h1:=h1.below hB (by omega)
  replace D1:=(hB.block _ (by omega)).trans D1
  replace D2:=(hB.block _ (by omega)).trans D2
  replace D4:=(hB.block _ (by omega)).trans D4
  have c20:=c18.trans (hB.mono (by omega))
  clear hB
  refine hK _ _ ⟨fun _ _ p hp=>c20.block p hp,?_⟩
  clear hK K
  try simp only [Act.put,zp]
  refine zK 7 rfl fun K hK=>?_
  go_simp
  go_at_call 148
  refine (qcc w19 a.neg P1 i1 d1 _ (IN1.more (Nat.zero_le _) (by omega)) qkf lc1 (by omega) (a.e+1) (by omega) _ rfl a.m qhn r code HF.out).mono ?_
  rintro e' w21 ⟨P4,i4,d4,rfl,lc4,hB,IN4⟩
  have lw21:w19.heap.size<=w21.heap.size:=hB.size
  replace h1:=h1.below hB (by omega)
  replace IN1:=IN1.below hB (by omega)
  replace D1:=(hB.block _ (by omega)).trans D1
  replace D2:=(hB.block _ (by omega)).trans D2
  replace D4:=(hB.block _ (by omega)).trans D4
  have c22:=c20.trans (hB.mono (by omega))
  clear hB
  refine hK _ _ ⟨fun _ _ p hp=>c22.block p hp,?_⟩
  clear hK K
  try simp only [Act.put,zp]
  refine zM 3 [8,9,10] ?_ ?_
  refine zK 12 rfl fun K hK=>?_
  go_simp
  obtain⟨⟨p1,p2,p3⟩,p4,p5,p6⟩:=qam D4
  go_simp
  refine hK _ _ ⟨fun h=>absurd h (by decide),?_⟩
  clear hK K
  try simp only [Act.put,zp]
  refine zM 1 [13] ?_ ?_
  refine qa2 (by kernel_rfl) ?_ _
  clear p1 p2 p3 p4 p5 p6
  have q4:=qeq D4 (.bool r.neg) (.slice P4 i4 d4) (.int .i64 r.e)
  have d7:=qay c22 (by omega:w2.heap.size<=w4.heap.size) (.bool r.neg) (.slice P4 i4 d4) (.int .i64 r.e)
  have J4:=qby IN4 (g:=w4.heap.size) (by omega) (.bool r.neg) (.slice P4 i4 d4) (.int .i64 r.e)
  have s7:w21.heap.size<=(((w21.setCell ⟨w4.heap.size,0,none⟩ (.bool r.neg)).setCell ⟨w4.heap.size,1,none⟩ (.slice P4 i4 d4)).setCell ⟨w4.heap.size,2,none⟩ (.int .i64 r.e)).heap.size:=by rw [qbw]; exact Nat.le_refl _
  generalize hw:((w21.setCell ⟨w4.heap.size,0,none⟩ (.bool r.neg)).setCell ⟨w4.heap.size,1,none⟩ (.slice P4 i4 d4)).setCell ⟨w4.heap.size,2,none⟩ (.int .i64 r.e)=w23 at *
  try clear hw
  have e8:=c3.trans (d7.mono (by omega))
  have X9:=(d7.block _ (by omega)).trans sv_D2
  obtain⟨⟨p1,p2,p3⟩,p4,p5,p6⟩:=qam q4
  obtain⟨⟨z1,z2,z3⟩,z4,z5,z6⟩:=qam X9
  go_wp2
  refine bodyPost_ret (v:=.tuple #[.agg #[.bool r.neg,.slice P4 i4 d4,.int .i64 r.e],.int .i64 code]) (by simp [results,Tryz.results152,go_sem,z1,z2,z3]) rfl ⟨P4,i4,d4,rfl,lc4,?_,?_⟩
  . exact qay e8 (by omega) _ _ _
  exact (qby J4 (.inl (by omega)) _ _ _).more (by omega) (by rw [qbw]; omega)
theorem qt2(w:World)(s1:Bool)(A1:Option Addr)(n1 c1:Nat)(xs1:List Int)(e1:Int)(h1:qae w 0 w.heap.size .u32 A1 n1 xs1)(r:Dn)(code:Int)(h:qne s1 xs1 e1=(r,code)) :
  Calls Tryz.prog 152 #[.agg #[.bool s1,.slice A1 n1 c1,.int .i64 e1]] w (qb0 w r code):=by
 unfold qne at h
 split at h
 . rename_i hm
   obtain⟨y1,k1,k2⟩:=qii (qck h1) hm
   have:=qxh w (dn s1 xs1 e1) y1 A1 n1 c1 (by rw [k1]; exact h1) r code h
   rw [k2] at this
   exact this
 rename_i hm
 injection h with h3 h4
 subst h3 h4
 exact (qt1 w s1 A1 n1 c1 xs1 e1 h1 hm).mono fun _ _ k=>qk2 k
def qwu(hi:Nat)(w w':World):Prop:=∀ k,hi<=k->k < w.heap.size->w'.heap[k]? = w.heap[k]?
theorem qwu.setCell{hi:Nat}{w0 w:World}(h:qwu hi w0 w){p:Addr}(hp:p.block < hi)(v:Value):qwu hi w0 (w.setCell p v):=fun k h1 h2=>by
 rw [<-h k h1 h2]
 exact Below.heap_setCell _ _ _ _ (by omega)
theorem qcs{w w':World}{lo hi l h n:Nat}{k:IntKind}{A:Option Addr}{xs:List Int}(hI:qae w l h k A n xs)(hb:Below lo w w')(hf:qwu hi w w')(hs:h<=w.heap.size)(hd:h<=lo∨hi<=l):qae w' l h k A n xs :=
 ⟨hI.len,hI.wf,hI.big,fun h0=>by
  obtain⟨b,off,e,h1,h2,hc⟩:=hI.row h0
  have h3:w'.heap[b]? = w.heap[b]? := by
   rcases hd with hd|hd
   . exact hb.block b (by omega)
   exact hf b (by omega) (by omega)
  exact⟨b,off,e,h1,h2,fun j hj=>⟨by rw [World.cell?_of_block h3]; exact (hc j hj).1,by rw [World.frozen?_of_block h3]; exact (hc j hj).2⟩⟩⟩
theorem qed{w w':World}{lo hi g:Nat}{o:Obj}(h:w.heap[g]? = some o)(hb:Below lo w w')(hf:qwu hi w w')(hd:g < lo∨hi<=g):w'.heap[g]? = some o:=by
 rcases hd with hd|hd
 . exact (hb.block g hd).trans h
 exact (hf g hd (Array.getElem?_eq_some_iff.1 h).1).trans h
end Dy
end Go.Proofs.YtmbppgjhdcmckaaGreatDoor