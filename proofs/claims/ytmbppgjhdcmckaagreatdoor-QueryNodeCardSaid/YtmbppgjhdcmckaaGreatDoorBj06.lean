/- Sums, differences, halves and comparisons of dyads that may not be; halves: walks. -/
import Derived.Test.YtmbppgjhdcmckaaGreatDoorBj05
set_option maxHeartbeats 102400000
set_option maxRecDepth 100000
namespace Go.Proofs.YtmbppgjhdcmckaaGreatDoor
open Go.RowKit
namespace Dy
open Dp
def Bad(w:World)(e:Ending)(w':World):Prop:=e=.returned (.tuple #[.agg #[.bool false,.slice none 0 0,.int .i64 0],.int .i64 8])/\Below w.heap.size w w'
theorem qyy(w:World)(s1:Bool)(A1:Option Addr)(n1 c1:Nat)(xs1:List Int)(e1:Int)(h1:qae w 0 w.heap.size .u32 A1 n1 xs1)(hm:¬ qik s1 xs1 e1) :
  Calls Tryz.prog 82 #[.agg #[.bool s1,.slice A1 n1 c1,.int .i64 e1]] w (Bad w):=by
 generalize hw1:(w.alloc (.cells #[.bool s1,.slice A1 n1 c1,.int .i64 e1] 24)).alloc (.cells #[.bool false,.slice none 0 0,.int .i64 0] 24)=w1
 have hs1:w1.heap.size=w.heap.size+2:=by rw [<-hw1]; simp
 have HS1:=Lib.hid hs1
 have hB1:Below w.heap.size w w1:=by rw [<-hw1]; exact ((Below.refl _ w).alloc (Nat.le_refl _) _).alloc (by simp) _
 have hb1:w1.heap[w.heap.size]? = some (.cells #[.bool s1,.slice A1 n1 c1,.int .i64 e1] 24 (0,0)):=by
  rw [<-hw1,Below.heap_alloc _ _ _ (by simp)]
  exact heap_alloc_last _ _
 have hb3:w1.heap[w.heap.size+1]? = some (.cells #[.bool false,.slice none 0 0,.int .i64 0] 24 (0,0)):=by
  rw [<-hw1]
  exact heap_alloc2_new _ _ _
 have g1:=h1.below hB1 (Nat.le_refl _)
 clear hs1
 obtain⟨⟨p0,p1,p2⟩,p3,p4,p5⟩:=qam hb1
 go_enter Tryz.func82,Tryz.ntmps82
 go_wp2_with fail
 refine (qj7 w1 0 w.heap.size s1 A1 n1 c1 xs1 e1 g1 (by have:=HS1.out; omega) hm).mono ?_
 rintro e w2 ⟨rfl,hB2⟩
 replace hb3:=(hB2.block _ (by have:=HS1.out; omega)).trans hb3
 replace hB1:=hB1.trans (hB2.mono (by have:=HS1.out; omega))
 clear hB2 p0 p1 p2 p3 p4 p5 hw1 hm
 obtain⟨⟨x0,x1,x2⟩,x3,x4,x5⟩:=qam hb3
 go_wp2
 refine bodyPost_ret (v:=.tuple #[.agg #[.bool false,.slice none 0 0,.int .i64 0],.int .i64 8]) (by simp [results,Tryz.results82,go_sem,x0,x1,x2]) rfl ⟨rfl,?_⟩
 exact ((hB1.setCell (by simp) _).setCell (by simp) _).setCell (by simp) _
theorem Sum.expo{w:World}{g:Nat}{s:Bool}{L:Value}{ex:Int}{ws:List Int}(h:Sum w g s L ex ws)(t:Int):Sum (w.setCell ⟨g,2,none⟩ (.int .i64 t)) g s L t ws :=
 ⟨by rw [heap_setCell_same w g _ _ _ _ h.blk]; congr 2; apply Array.ext'; simp,h.len,h.dig⟩
theorem q03(w:World)(a:Dn)(ha:a.May)(A1:Option Addr)(n1 c1:Nat)(h1:qae w 0 w.heap.size .u32 A1 n1 (qaf 4294967296 a.m))(hT:Tab w)(r:Dn)(code:Int)(h:qgt a=(r,code)) :
  Calls Tryz.prog 82 #[.agg #[.bool a.neg,.slice A1 n1 c1,.int .i64 a.e]] w (qb0 w r code):=by
 have hn1:=qek h1 ha
 have HM1:=Lib.hid (qgy ha)
 have hae:=ha.2.1
 obtain⟨sd1,_,sn1⟩:=qah 4294967296 a.m (by decide)
 have SN1:=Lib.hid sn1
 have H:=Lib.hid h
 generalize hm1:qaf 4294967296 a.m=xs1 at *
 clear h sn1 hm1
 have h0:=hT.lt
 generalize hw1:(w.alloc (.cells #[.bool a.neg,.slice A1 n1 c1,.int .i64 a.e] 24)).alloc (.cells #[.bool false,.slice none 0 0,.int .i64 0] 24)=w1
 have hs1:w1.heap.size=w.heap.size+2:=by rw [<-hw1]; simp
 have HS1:=Lib.hid hs1
 have hB1:Below w.heap.size w w1:=by rw [<-hw1]; exact ((Below.refl _ w).alloc (Nat.le_refl _) _).alloc (by simp) _
 have hb1:w1.heap[w.heap.size]? = some (.cells #[.bool a.neg,.slice A1 n1 c1,.int .i64 a.e] 24 (0,0)):=by
  rw [<-hw1,Below.heap_alloc _ _ _ (by simp)]
  exact heap_alloc_last _ _
 have hb3:w1.heap[w.heap.size+1]? = some (.cells #[.bool false,.slice none 0 0,.int .i64 0] 24 (0,0)):=by
  rw [<-hw1]
  exact heap_alloc2_new _ _ _
 have g1:=h1.below hB1 (Nat.le_refl _)
 clear hs1
 obtain⟨⟨p0,p1,p2⟩,p3,p4,p5⟩:=qam hb1
 have hT1:=hT.below hB1 hT.lt
 go_enter Tryz.func82,Tryz.ntmps82
 go_wp2_with fail
 refine (qmf w1 0 w.heap.size a.neg A1 n1 c1 xs1 a.e g1 (by have:=HS1.out; omega) HM1.out).mono ?_
 rintro e w2 ⟨rfl,hB2⟩
 have hs2:=hB2.size
 replace g1:=g1.below hB2 (by have:=HS1.out; omega)
 replace hT1:=hT1.below hB2 (by have:=HS1.out; omega)
 replace hb1:=(hB2.block _ (by have:=HS1.out; omega)).trans hb1
 replace hb3:=(hB2.block _ (by have:=HS1.out; omega)).trans hb3
 replace hB1:=hB1.trans (hB2.mono (by have:=HS1.out; omega))
 clear hB2 p0 p1 p2 p3 p4 p5 hw1
 obtain⟨⟨p0,p1,p2⟩,p3,p4,p5⟩:=qam hb1
 go_wp2_with fail
 refine (q1o w2 0 w.heap.size a.neg A1 n1 c1 xs1 a.e 0 g1 (by have:=HS1.out; omega) sd1 hn1 (by omega) (by omega) _ (by simp)).mono ?_
 rintro e w4 ⟨g,ws,rfl,hB4,hg1,hg2,hS4,hnw⟩
 have hs4:=hB4.size
 replace hT1:=hT1.below hB4 (by have:=HS1.out; omega)
 replace hb3:=(hB4.block _ (by have:=HS1.out; omega)).trans hb3
 replace hB1:=hB1.trans (hB4.mono (by have:=HS1.out; omega))
 have HNW:=Lib.hid hnw
 clear hB4 p0 p1 p2 p3 p4 p5 hnw g1 hb1
 obtain⟨z0,z1,z2⟩:=hS4.head
 have z3:=hS4.free 2
 go_wp2_with fail
 have hS5:=hS4.expo ((a.e:Int)+1)
 have hT5:=hT1.keep (heap_setCell_other w4 ⟨g,2,none⟩ 0 (.int .i64 ((a.e:Int)+1)) (by have:=HS1.out; simp; omega))
 have hb5:=(heap_setCell_other w4 ⟨g,2,none⟩ (w.heap.size+1) (.int .i64 ((a.e:Int)+1)) (by simp; have:=HS1.out; omega)).trans hb3
 have hB5:=hB1.setCell (p:=⟨g,2,none⟩) (by simp; have:=HS1.out; omega) (.int .i64 ((a.e:Int)+1))
 have hs5:(w4.setCell ⟨g,2,none⟩ (.int .i64 ((a.e:Int)+1))).heap.size=w4.heap.size:=by simp [World.setCell]
 have HS5:=Lib.hid hs5
 generalize w4.setCell ⟨g,2,none⟩ (.int .i64 ((a.e:Int)+1))=w5 at *
 clear hs5 hT1 hb3 hB1 hS4 z0 z1 z2 z3
 have hf:qa4 a.neg (num 4294967296 ws) (a.e+1)=(r,code):=by rw [HNW.out,SN1.out,Nat.pow_zero,Nat.mul_one]; exact H.out
 have hS6:Sum w5 g a.neg (.slice none 0 0) ((a.e+1:Nat):Int) ws:=hS5
 refine (qx6 w5 g (by have:=HS5.out; omega) a.neg _ (a.e+1) (by omega) ws hS6 hT5 r code hf).mono ?_
 rintro e w7 ⟨A',n',c',rfl,hc',hB7,hI7⟩
 have hs7:=hB7.size
 have hb7:=(hB7.block _ (by have:=HS1.out; have:=HS5.out; omega)).trans hb5
 have hBB:=hB5.trans (hB7.mono (by have:=HS1.out; have:=HS5.out; omega))
 have HI:=Lib.hid hI7
 obtain⟨⟨x0,x1,x2⟩,x3,x4,x5⟩:=qam hb7
 clear hf hS5 hS6 hT5 hB5 hb5 hB7 hI7
 go_wp2
 refine bodyPost_ret (v:=.tuple #[.agg #[.bool r.neg,.slice A' n' c',.int .i64 r.e],.int .i64 code]) (by simp [results,Tryz.results82,go_sem,x0,x1,x2]) rfl ⟨A',n',c',rfl,hc',?_,?_⟩
 . exact ((hBB.setCell (by simp) _).setCell (by simp) _).setCell (by simp) _
 refine qae.more (lo:=w5.heap.size) (hi:=w7.heap.size) ?_ (by have:=HS1.out; have:=HS5.out; omega) (by simp [World.setCell])
 exact qad (qad (qad HI.out (.inl (by have:=HS1.out; have:=HS5.out; simp; omega)) _) (.inl (by have:=HS1.out; have:=HS5.out; simp; omega)) _) (.inl (by have:=HS1.out; have:=HS5.out; simp; omega)) _
theorem qvu(w:World)(lo hi:Nat)(A:Option Addr)(n c:Nat)(xs:List Int)(h:qae w lo hi .u32 A n xs)(hd:Dig 4294967296 xs)(hnc:n<=c)(v:Nat)(hv:num 4294967296 xs=v) :
  Calls Tryz.prog 94 #[.slice A n c] w fun e w'=>(∃ m,e=.returned (.slice A m m)/\m<=n/\qae w lo hi .u32 A m (qaf 4294967296 v))/\w'=w:=by
 have hl:=Lib.hid h.len
 have hbig:=h.big
 have HV:=Lib.hid hv
 clear hv
 go_enter Tryz.func94,Tryz.ntmps94
 go_wp2
 go_loopw [3] (fun i wr=>∃ k:Nat,i=.int .i64 k/\k<=n/\Hid (num 4294967296 (xs.take k)=num 4294967296 xs)/\wr=w) (fun i _=>(intOf i).toNat)
 case atStart=>exact⟨n,rfl,Nat.le_refl _,by rw [Hid,List.take_of_length_le (by rw [hl.out]; exact Nat.le_refl _)],rfl⟩
 obtain⟨k,rfl,hk,hn,rfl⟩:=hrel
 rcases k with _|j
 . have he:=qit (by decide) hd (Nat.zero_le _) hn.out (.inl rfl)
   have hI:=h.take_ (m:=0) (Nat.zero_le _)
   rw [he,HV.out] at hI
   clear he
   go_wp2
   go_ret
   exact⟨⟨0,rfl,Nat.zero_le _,hI⟩,by trivial⟩
 obtain⟨b,off,rfl,hcell⟩:=get h (by omega)
 have g1:wr.cell? ⟨b,off+j,none⟩=some (.int .u32 (xs[j]?.getD 0)):=hcell j (by omega)
 clear hcell
 have ej:((j+1:Nat):Int)-1=(j:Int):=by omega
 by_cases hz:xs[j]?.getD 0=0
 . have hn2:=Lib.hid (qzd (by rw [hl.out]; omega) hn.out hz)
   rw [hz] at g1
   clear hz
   go_wp2
   go_roundw
   case rel=>exact⟨j,by first | rfl | (congr 1; omega),by omega,hn2,by trivial⟩
   case measure=>first | (simp [intOf]; done) | (simp [intOf]; omega)
 have he:=qit (by decide) hd (by rw [hl.out]; omega) hn.out (.inr (by simpa using hz))
 have hI:=h.take_ (m:=j+1) hk
 rw [he,HV.out] at hI
 have hb:(xs[j]?.getD 0==0)=false:=by simpa using hz
 clear he hz
 go_wp2
 go_ret
 exact⟨⟨j+1,rfl,hk,hI⟩,by trivial⟩
theorem qce{g:Nat}{w:World}{x}(o)(h:w.heap[g]? = some x):(w.alloc o).heap[g]? = some x:=(Below.heap_alloc _ _ _ (Array.getElem?_eq_some_iff.1 h).1).trans h
theorem boxA{w:World}{g:Nat}{x y z:Value}{t:TypeId}(h:w.heap[g]? = some (.cells #[x,y,z] t (0,0))) :
  (∀ o,(w.alloc o).cell? ⟨g,0,none⟩=some x)/\(∀ o,(w.alloc o).cell? ⟨g,1,none⟩=some y)/\(∀ o,(w.alloc o).cell? ⟨g,2,none⟩=some z)/\(∀ o,(w.alloc o).frozen? ⟨g,0,none⟩=false)/\(∀ o,(w.alloc o).frozen? ⟨g,1,none⟩=false)/\(∀ o,(w.alloc o).frozen? ⟨g,2,none⟩=false) :=
 ⟨fun o=>(qam (qce o h)).1.1,fun o=>(qam (qce o h)).1.2.1,fun o=>(qam (qce o h)).1.2.2,fun o=>(qam (qce o h)).2.1,fun o=>(qam (qce o h)).2.2.1,fun o=>(qam (qce o h)).2.2.2⟩
theorem qxz(w:World)(t:TypeId)(x y:Int)(hx:0<=x/\x<=4294967295)(hy:0<=y/\y<=4294967295):qae (w.alloc (.cells #[.int .u32 x,.int .u32 y] t)) w.heap.size (w.heap.size+1) .u32 (some ⟨w.heap.size,0,none⟩) 2 [x,y]:=by
 refine⟨rfl,fun z hz=>?_,by omega,fun _=>⟨w.heap.size,0,rfl,Nat.le_refl _,by omega,fun j hj=>?_⟩⟩
 . simp only [List.mem_cons,List.not_mem_nil,or_false] at hz
   have h:0<=z/\z<=4294967295:=by rcases hz with rfl | rfl<;>assumption
   simpa [IntKind.min,IntKind.max,IntKind.signed,IntKind.bits] using h
 have:j=0∨j=1:=by omega
 rcases this with rfl|rfl<;>simp [go_sem]
theorem qhp(w:World)(v:Nat)(hv:v < 18446744073709551616)(z:Int)(hz:z=v) :
  Calls Tryz.prog 47 #[.int .u64 z] w fun e w'=>∃ A n,e=.returned (.slice A n n)/\Below w.heap.size w w'/\qae w' w.heap.size w'.heap.size .u32 A n (qaf 4294967296 v):=by
 subst hz
 have hi:=qxz w 48 ((v:Int)%4294967296) ((v:Int)/4294967296) (by omega) (by omega)
 have hd:Dig 4294967296 [(v:Int)%4294967296,(v:Int)/4294967296]:=fun x hx=>by
  simp only [List.mem_cons,List.not_mem_nil,or_false] at hx
  rcases hx with rfl|rfl<;>omega
 have hn:num 4294967296 [(v:Int)%4294967296,(v:Int)/4294967296]=v:=by
  simp only [num]
  omega
 have HN:=Lib.hid hn
 have HD:=Lib.hid hd
 clear hn hd
 go_enter Tryz.func47,Tryz.ntmps47
 go_wp2_with fail
 refine (qvu _ w.heap.size (w.heap.size+1) _ 2 2 _ hi HD.out (Nat.le_refl _) v HN.out).mono ?_
 rintro e w1 ⟨⟨m,rfl,hm,hI⟩,rfl⟩
 go_wp2
 go_ret
 exact⟨_,m,rfl,(Below.refl _ _).alloc (Nat.le_refl _) _,hI.more (Nat.le_refl _) (by simp)⟩
theorem qk6(w:World)(z:Int)(h0:-9223372036854775808<=z)(h1:z<=9223372036854775807)(s:Bool)(v:Nat)(hs:decide (z < 0)=s)(hv:z.natAbs=v) :
  Calls Tryz.prog 19 #[.int .i64 z] w fun e w'=>∃ A n,e=.returned (.agg #[.bool s,.slice A n n,.int .i64 0])/\Below w.heap.size w w'/\qae w' w.heap.size w'.heap.size .u32 A n (qaf 4294967296 v):=by
 have HV:=Lib.hid hv
 by_cases hneg:z < 0
 . have:s=true:=by rw [<-hs]; simpa using hneg
   subst this
   clear hs hv
   obtain⟨U,hU⟩:∃ U:Nat,(U:Int)=z+18446744073709551616:=⟨(z+18446744073709551616).toNat,by omega⟩
   have e1:IntKind.u64.wrap z=U:=by rw [IntKind.wrap_u64]; omega
   have HU:=Lib.hid hU
   have hU2:U<=18446744073709551615:=by omega
   have hU3:0 < U:=by omega
   clear hU
   go_enter Tryz.func19,Tryz.ntmps19
   go_wp2_with fail
   refine (qhp _ U (by omega) _ rfl).mono ?_
   rintro e w1 ⟨A1,n1,rfl,hB1,hI1⟩
   have hs1:=hB1.size
   simp at hs1
   have hb1:=(hB1.block w.heap.size (by simp)).trans (heap_alloc_last w _)
   have hBB:=((Below.refl w.heap.size w).alloc (Nat.le_refl _) (.cells #[.bool false,.slice none 0 0,.int .i64 0] 24)).trans (hB1.mono (by simp))
   clear hB1 hI1
   have hn0:=heap_alloc_last w1 (.cells #[.bool true,.slice A1 n1 n1,.int .i64 0] 24)
   have hr0:=qce (.cells #[.bool true,.slice A1 n1 n1,.int .i64 0] 24) hb1
   have hB0:=hBB.alloc (by omega) (.cells #[.bool true,.slice A1 n1 n1,.int .i64 0] 24)
   obtain⟨y0,y1,y2,y3,y4,y5⟩:=boxA hb1
   go_wp2_with fail
   have hv2:(-(U:Int))%18446744073709551616=v:=by have:=HU.out; have:=HV.out; omega
   refine (qhp _ v (by have:=HV.out; omega) _ (by first | omega | (rw [IntKind.wrap_u64]; omega))).mono ?_
   rintro e w2 ⟨A2,n2,rfl,hB2,hI2⟩
   have hs2:=hB2.size
   simp at hs2
   have hb2:=(hB2.block w.heap.size (by simp; omega)).trans hr0
   have hc2:=(hB2.block w1.heap.size (by simp)).trans hn0
   have hB3:=hB0.trans (hB2.mono (by simp; omega))
   have HI:=Lib.hid hI2
   clear hB2 hI2 hn0 hr0 hB0 y0 y1 y2 y3 y4 y5
   obtain⟨⟨x0,x1,x2⟩,x3,x4,x5⟩:=qam hb2
   obtain⟨⟨z0,z1,z2⟩,z3,z4,z5⟩:=qam hc2
   have hne:w.heap.size≠w1.heap.size:=by omega
   have hne2:w1.heap.size≠w.heap.size:=by omega
   go_wp2
   refine bodyPost_ret (v:=.agg #[.bool true,.slice A2 n2 n2,.int .i64 0]) (by simp [results,Tryz.results19,go_sem,x0,x1,x2]) rfl ⟨A2,n2,rfl,?_,?_⟩
   . exact (((hB3.setCell (by simp; omega) _).setCell (Nat.le_refl _) _).setCell (Nat.le_refl _) _).setCell (Nat.le_refl _) _
   refine qae.more (lo:=w1.heap.size+1) (hi:=w2.heap.size) ?_ (by omega) (by simp [World.setCell])
   have h:=HI.out
   simp only [World.size_alloc] at h
   exact qad (qad (qad (qad h (.inl (by simp)) _) (.inl (by simp; omega)) _) (.inl (by simp; omega)) _) (.inl (by simp; omega)) _
 have:s=false:=by rw [<-hs]; simpa using hneg
 subst this
 have h2:0<=z:=by omega
 clear hs hv
 go_enter Tryz.func19,Tryz.ntmps19
 go_wp2_with fail
 refine (qhp _ v (by have:=HV.out; omega) _ (by have:=HV.out; first | omega | (rw [IntKind.wrap_u64]; omega))).mono ?_
 rintro e w1 ⟨A1,n1,rfl,hB1,hI1⟩
 have hs1:=hB1.size
 simp at hs1
 have hb1:=(hB1.block w.heap.size (by simp)).trans (heap_alloc_last w _)
 have hBB:=((Below.refl w.heap.size w).alloc (Nat.le_refl _) (.cells #[.bool false,.slice none 0 0,.int .i64 0] 24)).trans (hB1.mono (by simp))
 obtain⟨y0,y1,y2,y3,y4,y5⟩:=boxA hb1
 have hne:w.heap.size≠w1.heap.size:=by omega
 have hne2:w1.heap.size≠w.heap.size:=by omega
 have HI:=Lib.hid hI1
 clear hB1 hI1
 go_wp2
 refine bodyPost_ret (v:=.agg #[.bool false,.slice A1 n1 n1,.int .i64 0]) (by simp [results,Tryz.results19,go_sem,y0,y1,y2]) rfl ⟨A1,n1,rfl,?_,?_⟩
 . exact (((hBB.alloc (by omega) _).setCell (Nat.le_refl _) _).setCell (Nat.le_refl _) _).setCell (Nat.le_refl _) _
 refine qae.more (lo:=w.heap.size+1) (hi:=w1.heap.size) ?_ (by omega) (by simp [World.setCell])
 have h:=HI.out
 simp only [World.size_alloc] at h
 exact qad (qad (qad (h.alloc (Nat.le_refl _) _) (.inl (by simp)) _) (.inl (by simp)) _) (.inl (by simp)) _
theorem qr8(w:World)(lo hi:Nat)(A:Option Addr)(n c:Nat)(xs:List Int)(hX:qae w lo hi .u32 A n xs)(i:Nat)(ii:Int)(hii:ii=i)(d:Nat)(hd:xs[i]?.getD 0=(d:Int)) :
  Calls Tryz.prog 201 #[.slice A n c,.int .i64 ii] w fun e w'=>e=.returned (.int .u32 d)/\w'=w:=by
 subst hii
 have hl:=Lib.hid hX.len
 by_cases hlt:i < n
 . obtain⟨b,off,rfl,hcell⟩:=get hX (by omega)
   have g1:=hcell i hlt
   rw [hd] at g1
   clear hcell hd
   go_enter Tryz.func201,Tryz.ntmps201
   go_wp2
   go_ret
   exact⟨rfl,rfl⟩
 have h0:d=0:=by
  rw [List.getElem?_eq_none (by rw [hl.out]; omega)] at hd
  exact (Int.ofNat.inj hd).symm
 subst h0
 clear hd
 go_enter Tryz.func201,Tryz.ntmps201
 go_wp2
 go_ret
 exact⟨rfl,rfl⟩
theorem qs5(w:World)(lo hi:Nat)(A:Option Addr)(n c:Nat)(xs:List Int)(hX:qae w lo hi .u32 A n xs)(h:qn5 xs) :
  Calls Tryz.prog 212 #[.slice A n c] w fun e w'=>e=.returned (.bool false)/\w'=w:=by
 have H:=Lib.hid h
 clear h
 go_enter Tryz.func212,Tryz.ntmps212
 go_wp2_with fail
 refine (qbt w lo hi A n c xs hX H.out).mono ?_
 rintro e w2 ⟨rfl,rfl⟩
 go_wp2
 go_ret
 exact⟨rfl,rfl⟩
theorem qlv(w:World)(g:Nat)(A:Option Addr)(n c:Nat)(hg:w.heap[g]? = some (.cells #[.slice A n c] 22 (0,0)))(lo hi:Nat)(xs:List Int)(hX:qae w lo hi .u32 A n xs)(h:qn5 xs) :
  Calls Tryz.prog 218 #[.slice (some ⟨g,0,none⟩) 1 1,.func (.func 212) #[] #[]] w fun e w'=>e=.returned (.int .i64 (-1))/\w'=w:=by
 have H:=Lib.hid h
 clear h
 have g1:w.cell? ⟨g,0,none⟩=some (.slice A n c):=cell_of_row w g 0 _ _ _ hg
 go_enter Tryz.func218,Tryz.ntmps218
 go_wp2
 go_loopw [5,8] (fun _ iv wr=>(iv=.int .i64 0∨iv=.int .i64 1)/\wr=w) (fun _ iv _=>1-(intOf iv).toNat)
 case atStart=>exact⟨.inl rfl,rfl⟩
 obtain⟨hiv,rfl⟩:=hrel
 rcases hiv with rfl|rfl
 . go_wp2_with fail
   refine (qs5 wr lo hi A n c xs hX H.out).mono ?_
   rintro e w2 ⟨rfl,rfl⟩
   go_wp2
   go_roundw
   case rel=>exact⟨.inr (by first | rfl | (congr 1; omega)),by first | rfl | trivial⟩
   case measure=>first | (simp [intOf]; done) | (simp [intOf]; omega)
 go_wp2
 go_ret
 exact⟨rfl,by first | rfl | trivial⟩
theorem qv8(w:World)(g:Nat)(A:Option Addr)(n c:Nat)(hg:w.heap[g]? = some (.cells #[.slice A n c] 22 (0,0)))(lo hi:Nat)(xs:List Int)(hX:qae w lo hi .u32 A n xs)(h:qn5 xs) :
  Calls Tryz.prog 200 #[.slice (some ⟨g,0,none⟩) 1 1] w fun e w'=>e=.returned (.int .i64 0)/\w'=w:=by
 have H:=Lib.hid h
 have hc:Calls Tryz.prog 211 #[.slice (some ⟨g,0,none⟩) 1 1,.func (.func 212) #[] #[]] w fun e w'=>e=.returned (.bool false)/\w'=w:=by
  go_enter Tryz.func211,Tryz.ntmps211
  go_wp2_with fail
  refine (qlv w g A n c hg lo hi xs hX H.out).mono ?_
  rintro e w2 ⟨rfl,rfl⟩
  go_wp2
  go_ret
  exact⟨rfl,rfl⟩
 clear h hg hX
 go_enter Tryz.func200,Tryz.ntmps200
 go_wp2_with fail
 refine hc.mono ?_
 rintro e w2 ⟨rfl,rfl⟩
 clear hc
 go_wp2
 go_ret
 exact⟨rfl,rfl⟩
structure qg9(w wr:World)(q:Nat)(M i n:Nat)(ds:List Int):Prop where
 hQ:wr.heap[q]? = some (.cells (qat ds) 48 (0,0))
 hB:Below w.heap.size w wr
 lq:w.heap.size<=q
 len:ds.length=n
 dig:Dig 4294967296 ds
 done:∀ j,j < i->ds[j]?.getD 0=((M/4294967296^j%4294967296:Nat):Int)
theorem qg9.set{w wr:World}{q M i n:Nat}{ds:List Int}(h:qg9 w wr q M i n ds){d:Nat}(hi:i < n)(hd:d < 4294967296)(hv:d=M/4294967296^i%4294967296):qg9 w (wr.setCell ⟨q,i,none⟩ (.int .u32 d)) q M (i+1) n (ds.set i (d:Int)) :=
 ⟨by rw [heap_setCell_same wr q i _ _ _ h.hQ,qin],h.hB.setCell h.lq _,h.lq,by rw [List.length_set,h.len],qf4 h.dig i d hd,fun j hj=>by
  by_cases hji:j=i
  . subst hji
    rw [List.getElem?_set_self (by rw [h.len]; exact hi),<-hv]
    rfl
  rw [qlb _ _ (fun e=>hji e.symm)]
  exact h.done j (by omega)⟩
theorem qg9.drewN{w wr:World}{q M i n:Nat}{ds:List Int}(h:qg9 w wr q M i n ds)(m:Nat):qg9 w (wr.drewN m) q M i n ds:=⟨h.hQ,⟨h.hB.os,h.hB.tape,h.hB.output,h.hB.size,h.hB.block⟩,h.lq,h.len,h.dig,h.done⟩
theorem qg9.ints{w wr:World}{q M n:Nat}{ds:List Int}(h:qg9 w wr q M n n ds)(hn:n<=1000):qae wr w.heap.size wr.heap.size .u32 (some ⟨q,0,none⟩) n ds :=
 ⟨h.len,fun x hx=>by
  have h3:=h.dig x hx
  have h4:0<=x/\x<=4294967295:=by omega
  simpa [IntKind.min,IntKind.max,IntKind.signed,IntKind.bits] using h4,by omega,fun _=>⟨q,0,rfl,h.lq,(Array.getElem?_eq_some_iff.1 h.hQ).1,fun j hj=>⟨by
   rw [Nat.zero_add,cell_of_row wr q j _ _ _ h.hQ]
   exact qeh ds (by rw [h.len]; exact hj),by
   rw [Nat.zero_add]
   exact frozen_of_row wr q j _ _ h.hQ⟩⟩⟩
theorem qxn(x y:Nat)(hx:x < 4294967296)(hy:y < 4294967296):bits BinOp.or IntKind.u64 ((x:Int)*4294967296) (y:Int)=((x*4294967296+y:Nat):Int):=by
 have:=u64_or_nat (x*4294967296) y (by omega) (by omega)
 rw [nat_join 32 _ _ (by omega) (by omega)] at this
 rw [<-this]
 congr 1
theorem qg8(w:World)(A:Option Addr)(n c:Nat)(xs:List Int)(hX:qae w 0 w.heap.size .u32 A n xs)(h:qn5 xs)(hd:Dig 4294967296 xs)(hn:0 < n)(hnc:n<=c)(k:Nat)(hk:k < 32)(v:Nat)(hv:num 4294967296 xs/2^k=v) :
  Calls Tryz.prog 175 #[.slice A n c,.int .i64 k] w fun e w'=>∃ A' m,e=.returned (.tuple #[.slice A' m m,.int .i64 0])/\Below w.heap.size w w'/\m<=n/\qae w' w.heap.size w'.heap.size .u32 A' m (qaf 4294967296 v):=by
 have hl:=Lib.hid hX.len
 have h40:n<=40:=by have:=h.1; have:=hl.out; omega
 have HM:=Lib.hid h
 have HV:=Lib.hid hv
 have HD:=Lib.hid hd
 clear h hv hd
 have hX1:=hX.alloc (Nat.le_refl _) (.cells #[.slice A n c] 22)
 generalize hw:w.alloc (.cells #[.slice A n c] 22)=w1
 rw [hw] at hX1
 have hg:w1.heap[w.heap.size]? = some (.cells #[.slice A n c] 22 (0,0)):=by rw [<-hw]; exact heap_alloc_last _ _
 have hb:Below w.heap.size w w1:=by rw [<-hw]; exact (Below.refl _ _).alloc (Nat.le_refl _) _
 have l1:w.heap.size < w1.heap.size:=by rw [<-hw]; simp
 have hk0:(k:Int)/32=0:=by omega
 have hnb:decide (n=0)=false:=decide_eq_false (by omega)
 have hkb:decide ((k:Int) < 0)=false:=decide_eq_false (by omega)
 go_enter Tryz.func175,Tryz.ntmps175
 go_wp2_with fail
 try clear hw
 refine (qv8 w1 w.heap.size A n c hg 0 w.heap.size xs hX1 HM.out).mono ?_
 rintro e w2 ⟨rfl,rfl⟩
 clear hg
 have hmk:=qqm n (by omega)
 obtain⟨b,off,rfl,_⟩:=get hX1 hn
 go_wp2_with fail
 generalize hw3:w2.alloc (.cells (qat (List.replicate n 0)) 48)=w3
 have hQ3:w3.heap[w2.heap.size]? = some (.cells (qat (List.replicate n 0)) 48 (0,0)):=by rw [<-hw3]; exact heap_alloc_last _ _
 have hb3:Below w.heap.size w w3:=by rw [<-hw3]; exact hb.alloc (by omega) _
 have hX3:qae w3 0 w.heap.size .u32 (some ⟨b,off,none⟩) n xs:=by rw [<-hw3]; exact hX1.alloc (by omega) _
 clear hw3 hmk
 go_loopw [8,9,35] (fun _ _ iv wr=>∃ (i:Nat) (ds:List Int),iv=.int .i64 i/\i<=n/\qg9 w wr w2.heap.size v i n ds) (fun _ _ iv _=>n-(intOf iv).toNat)
 case atStart=>exact⟨0,_,rfl,Nat.zero_le _,hQ3,hb3,by omega,by simp,qea n,fun j hj=>absurd hj (Nat.not_lt_zero _)⟩
 clear hQ3 hb3 hX3
 obtain⟨i,ds,rfl,hi,hR⟩:=hrel
 have hXr:=hX.below hR.hB (Nat.le_refl _)
 by_cases hlt:i < n
 . obtain⟨b',off',e,hcell⟩:=get hXr hn
   injection e with e
   injection e with e1 e2
   subst e1 e2
   obtain⟨x,hx,hx2⟩:=qa3 (by decide) HD.out (i+1)
   obtain⟨y,hy,hy2⟩:=qa3 (by decide) HD.out i
   have hlaw:=qpf HD.out i k x y (by rw [show i+k/32+1=i+1 by omega]; exact hx) (by rw [show i+k/32=i by omega]; exact hy)
   rw [HV.out,show k%32=k by omega] at hlaw
   have g1:=hcell i hlt
   rw [hy] at g1
   have e1:=qxn x y hx2 hy2
   obtain⟨s,hs⟩:∃ s,x*4294967296+y=s:=⟨_,rfl⟩
   rw [hs] at hlaw e1
   obtain⟨d,hd⟩:∃ d,s/2^k%4294967296=d:=⟨_,rfl⟩
   have hd2:d < 4294967296:=by omega
   have E:(s:Int)/2^k%4294967296=(d:Int):=by rw [qvx,hd]
   have HDV:=Lib.hid (hd.symm.trans hlaw)
   have HX:=Lib.hid hx
   have hk1:(k:Int)%32=k:=by omega
   have c3:wr.cell? ⟨w2.heap.size,i,none⟩=some (.int .u32 (ds[i]?.getD 0)):=by
    rw [cell_of_row wr _ i _ _ _ hR.hQ]
    exact qeh ds (by rw [hR.len]; exact hlt)
   have f3:wr.frozen? ⟨w2.heap.size,i,none⟩=false:=frozen_of_row wr _ i _ _ hR.hQ
   clear hcell hx hy hs hd hlaw
   go_wp2_with fail
   go_quiet (first | (go_at_call 201; refine Calls.quiet_of_same (qr8 _ 0 w.heap.size _ n c xs (hXr.drewN _) (i+1) _ (by omega) x HX.out)))
   go_wp2
   go_roundw
   case rel =>
    exact⟨i+1,ds.set i (d:Int),by go_num,by omega,(hR.drewN _).set hlt hd2 HDV.out⟩
   case measure=>first | (simp [intOf]; done) | (simp [intOf]; omega)
 obtain rfl:i=n:=by omega
 have hnum:num 4294967296 ds=v:=by
  refine qqi ds v (fun j hj=>hR.done j (by rw [<-hR.len]; exact hj)) ?_
  rw [hR.len,<-HV.out]
  have:=qc0 4294967296 (by decide) xs HD.out
  rw [hl.out] at this
  exact Nat.lt_of_le_of_lt (Nat.div_le_self _ _) this
 have HN:=Lib.hid hnum
 have hI:=hR.ints (by omega)
 have hbR:=hR.hB
 have hdR:=Lib.hid hR.dig
 clear hnum hR hXr
 go_wp2_with fail
 refine (qvu wr w.heap.size wr.heap.size (some ⟨w2.heap.size,0,none⟩) i i ds hI hdR.out (Nat.le_refl _) v HN.out).mono ?_
 rintro e w4 ⟨⟨m,rfl,hm,hIm⟩,rfl⟩
 clear hI
 go_wp2
 go_ret2
 exact⟨_,m,rfl,hbR,hm,hIm⟩
end Dy
end Go.Proofs.YtmbppgjhdcmckaaGreatDoor
namespace Go.Proofs.YtmbppgjhdcmckaaGreatDoor
open Go.RowKit
namespace Dy
theorem qo8{B n:Nat}(hB:2<=B)(k:Nat)(h:n≠0):List.replicate k 0++qaf B n=qaf B (B^k*n):=by
 obtain⟨h1,h2,h3⟩:=qah B n hB
 have hne:qaf B n≠[]:=fun e=>h (qc5 hB e)
 refine qdx hB (fun x hx=>?_) (fun hn=>?_) (by rw [qa8,qe0,h3]; simp)
 . rcases List.mem_append.1 hx with h' | h'
   . rw [(List.mem_replicate.1 h').2]
     omega
   exact h1 x h'
 rw [List.getLast_append_of_ne_nil _ hne]
 exact h2 hne
theorem qhx(w:World)(lo hi:Nat)(A:Option Addr)(n c:Nat)(v:Nat)(hX:qae w lo hi .u8 A n (qaf 2 v))(hhi:hi<=w.heap.size)(hn:n<=1000000)(k:Nat)(kk:Int)(hkk:kk=k)(hk:k<=100000) :
  Calls Tryz.prog 182 #[.slice A n c,.int .i64 kk] w fun e w'=>∃ A' n' c',e=.returned (.slice A' n' c')/\n'<=c'/\n'<=n+k/\Below w.heap.size w w'/\qae w' w.heap.size w'.heap.size .u8 A' n' (qaf 2 (2^k*v)):=by
 subst hkk
 obtain⟨i0,hi0,hz0,hz1,hz2⟩:=info_parts Tryz.info5
 have HL:=Lib.hid hX.len
 by_cases h0:v=0
 . subst h0
   have hn0:n=0:=by rw [<-HL.out]; rfl
   subst hn0
   go_enter Tryz.func182,Tryz.ntmps182
   go_wp2
   go_ret
   exact⟨none,0,0,rfl,Nat.le_refl _,by omega,Below.refl _ _,by rw [Nat.mul_zero]; exact qae.nil_ ..⟩
 have hn0:0 < n:=by
  rw [<-HL.out]
  exact List.length_pos_iff.2 fun e=>h0 (qc5 (by decide) e)
 have hC:=Lib.hid (qo8 (B:=2) (by decide) k h0)
 go_enter Tryz.func182,Tryz.ntmps182
 go_wp2_with (first
  | (at_make; refine wpList_make_full _ rfl _ _ 171 rfl w.heap.size 5 i0 (.int .u8 0) 1 Tryz.underlying171 hi0 hz0 hz1 .i64 .i64 k k k rfl rfl rfl rfl (by rw [hz2]; omega) (by unfold maxLen; omega) (Nat.le_refl _) ?_))
 intro w1 hown1 hgrow1
 have hz:(madeCells #[Value.int .u8 0] k).toList=(List.replicate k (0:Int)).map (Value.int .u8):=by
  apply List.ext_getElem
  . simp [madeCells]
  intro j h1 h2
  simp [madeCells,Nat.mod_one]
 rw [hz] at hown1
 have hb1:Below w.heap.size w w1:=(Below.refl _ w).grown hgrow1 (Nat.le_refl _) (fun q hq=>by cases hq)
 clear hz hgrow1
 go_wp2_with (first
  | (at_builtin; refine qag _ rfl (.tmp 9) (.tmp 10) 171 rfl w.heap.size 5 i0 (.int .u8 0) 1 1 Tryz.underlying171 hi0 hz0 hz1 hz2 rfl (by decide) _ _ _ rfl hown1 _ _ _ n _ _ rfl (hX.below hb1 hhi).raw ?c1 ?c2 ?c3 ?c4 ?_))
 case c1=>exact ints_oneCell _ _
 case c2=>unfold maxLen; omega
 case c3=>omega
 case c4=>exact hb1.size
 intro A2 c2 w2 hown2 hgrow2 _
 have hb2:Below w.heap.size w w2:=hb1.grown hgrow2 hb1.size (fun q hq=>(hown1.lt q hq).1)
 have hcz:List.replicate k (Value.int .u8 0)++(qaf 2 v).map (Value.int .u8)=(qaf 2 (2^k*v)).map (Value.int .u8):=by rw [<-hC.out]; simp
 rw [hcz] at hown2
 clear hcz
 have hc2:=qd0 hown2
 have hwf:∀ x∈qaf 2 (2^k*v),IntKind.u8.min<=x/\x<=IntKind.u8.max:=fun x hx=>by
  have:=(qah 2 (2^k*v) (by decide)).1 x hx
  simp only [IntKind.min,IntKind.max,IntKind.signed,IntKind.bits]
  omega
 have hI:=qae.of_own hown2 hwf (by omega)
 clear hown1 hown2 hgrow2 hb1
 go_wp2
 go_ret
 exact⟨A2,k+n,c2,rfl,hc2,by omega,hb2,hI⟩
theorem qyj{out:List Int}{k i t:Nat}(S r:Nat)(hl:out.length=i+k)(h:num 2 out=S+2^i*(t%2^k))(hr:t/2^k=r) :
  num 2 (out++[((r%2:Nat):Int)])=S+2^i*(t%2^(k+1)):=by
 rw [qa8,hl,h,Nat.mod_pow_succ,hr]
 simp only [num,Int.toNat_natCast,Nat.mul_zero,Nat.add_zero,Nat.mul_add,Nat.pow_add]
 rw [Nat.mul_assoc,Nat.add_assoc]
theorem qhz(w:World)(lo hi:Nat)(A:Option Addr)(n c:Nat)(xs:List Int)(hX:qae w lo hi .u32 A n xs)(hdx:Dig 4294967296 xs)(hhi:hi<=w.heap.size)(hn:n<=10000)(v:Nat)(hv:num 4294967296 xs=v) :
  Calls Tryz.prog 183 #[.slice A n c] w fun e w'=>∃ A' n' c',e=.returned (.slice A' n' c')/\n'<=c'/\n'<=32*n/\Below w.heap.size w w'/\qae w' w.heap.size w'.heap.size .u8 A' n' (qaf 2 v):=by
 have HL:=Lib.hid hX.len
 have HV:=Lib.hid hv
 clear hv
 obtain⟨i0,hi0,hz0,hz1,hz2⟩:=info_parts Tryz.info5
 go_enter Tryz.func183,Tryz.ntmps183
 go_wp2
 go_loopw [3,4] (fun o i wr=>∃ j:Nat,∃ out:List Int,i=.int .i64 j/\j<=n/\wr.ownsRow w.heap.size 5 1 o (32*j) (out.map (Value.int .u8))/\Dig 2 out/\Hid (num 2 out=num 4294967296 (xs.take j))/\Below w.heap.size w wr)
  (fun _ i _=>n-(intOf i).toNat)
 case atStart=>exact⟨0,[],rfl,by omega,⟨rfl,.inl ⟨rfl,rfl⟩⟩,fun x hx=>(by simp at hx),by simp [Hid,num],Below.refl _ _⟩
 obtain⟨j,out,rfl,hj,hown,hdo,hnum,hnx⟩:=hrel
 by_cases hlt:j < n
 . obtain⟨b,off,rfl,hcell⟩:=get (hX.below hnx hhi) (by omega)
   have g1:wr.cell? ⟨b,off+j,none⟩=some (.int .u32 (xs[j]?.getD 0)):=hcell j hlt
   clear hcell
   have hxm:0<=xs[j]?.getD 0/\xs[j]?.getD 0 < 4294967296:=by
    rw [List.getElem?_eq_getElem (by rw [HL.out]; exact hlt)]
    exact hdx _ (List.getElem_mem _)
   obtain⟨t,ht⟩:∃ t:Nat,xs[j]?.getD 0=t:=⟨(xs[j]?.getD 0).toNat,by omega⟩
   have HT:=Lib.hid ht
   rw [ht] at g1 hxm
   clear ht
   obtain⟨S,hS⟩:∃ S,num 4294967296 (xs.take j)=S:=⟨_,rfl⟩
   rw [hS] at hnum
   have HSS:=Lib.hid hS
   clear hS
   go_wp2
   go_loopw [3,5,6] (fun o nn kv wr=>∃ k r:Nat,∃ out:List Int,kv=.int .i64 k/\nn=.int .u32 r/\Hid (t/2^k=r)/\r<=4294967295/\k<=32/\wr.ownsRow w.heap.size 5 1 o (32*j+k) (out.map (Value.int .u8))/\Dig 2 out/\Hid (num 2 out=S+2^(32*j)*(t%2^k))/\Below w.heap.size w wr)
    (fun _ _ kv _=>32-(intOf kv).toNat)
   case atStart=>exact⟨0,t,out,rfl,rfl,by simp [Hid],by omega,by omega,hown,hdo,by rw [Hid,hnum.out]; simp [Nat.mod_one],hnx⟩
   clear hown hdo hnum hnx g1
   obtain⟨k,r,out,rfl,rfl,hr,hr2,hk,hown,hdo,hnum,hnx⟩:=hrel
   by_cases hkl:k < 32
   . have hol:out.length=32*j+k:=by have:=hown.1; simpa using this
     have hnum2:=Lib.hid (qyj S r hol hnum.out hr.out)
     have hdo2:=qgz hdo (r%2) (by omega)
     have hr3:Hid (t/2^(k+1)=r/2):=by rw [Hid,Nat.pow_succ,<-Nat.div_div_eq_div_mul,hr.out]
     clear hol hnum hr
     go_wp2_with (first
      | (at_builtin; refine qag _ rfl (.tmp 21) (.tmp 25) 171 rfl w.heap.size 5 i0 (.int .u8 0) 1 1 Tryz.underlying171 hi0 hz0 hz1 hz2 rfl (by decide) _ _ _ rfl (hown.alloc _) _ _ _ 1 1 [.int .u8 ((r:Int)%2)] rfl (qei _ _ _ _) ?c1 ?c2 ?c3 ?c4 ?_))
     case c1=>first | rfl | (intro u hu; simp at hu; subst hu; rfl)
     case c2=>unfold maxLen; omega
     case c3=>omega
     case c4=>have:=hnx.size; simp; omega
     intro A2 c2 w3 hown2 hgrow2 _
     have hnx2:Below w.heap.size w w3:=(hnx.alloc hnx.size _).grown hgrow2 (by have:=hnx.size; simp; omega) (fun q hq=>(hown.lt q hq).1)
     have hs:(r:Int)%2=((r%2:Nat):Int):=by omega
     rw [hs] at hown2
     have hown3:w3.ownsRow w.heap.size 5 1 (.slice A2 (32*j+k+1) c2) (32*j+(k+1)) ((out++[((r%2:Nat):Int)]).map (Value.int .u8)):=by simpa [Nat.add_assoc] using hown2
     clear hs hown2 hgrow2 hown
     go_wp2
     go_roundw
     case rel=>exact⟨k+1,r/2,_,by go_num,by congr 1,hr3,by omega,by omega,hown3,hdo2,hnum2,hnx2⟩
     case measure=>simp [intOf]; omega
   obtain rfl:k=32:=by omega
   have hfin:Hid (num 2 out=num 4294967296 (xs.take (j+1))):=by
    rw [Hid,qdt,HT.out,HSS.out,hnum.out,Nat.mod_eq_of_lt (by omega),Nat.pow_mul]
    simp
   clear hnum
   go_wp2
   go_roundw
   case rel=>exact⟨j+1,out,by go_num,by omega,by rw [show 32*(j+1)=32*j+32 by omega]; exact hown,hdo,hfin,hnx⟩
   case measure=>simp [intOf]; omega
 obtain rfl:j=n:=by omega
 obtain⟨A2,c2,rfl,hc2,_⟩:=qbb hown
 have hend:num 2 out=v:=by rw [hnum.out,List.take_of_length_le (by rw [HL.out]; exact Nat.le_refl _),HV.out]
 have hwf:∀ x∈out,IntKind.u8.min<=x/\x<=IntKind.u8.max:=fun x hx=>by
  have:=hdo x hx
  simp only [IntKind.min,IntKind.max,IntKind.signed,IntKind.bits]
  omega
 have hI:=qae.of_own hown hwf (by omega)
 have HE:=Lib.hid hend
 clear hown hnum hend
 go_wp2_with fail
 refine (qev _ _ _ _ _ _ _ hI hdo hc2).mono ?_
 rintro e w4 ⟨⟨m4,rfl,hm4,hI4⟩,rfl⟩
 rw [HE.out] at hI4
 go_wp2_with fail
 go_ret
 exact⟨A2,m4,c2,rfl,by omega,hm4,hnx,hI4⟩
theorem qqj(B:Nat)(l:List Int)(h:l≠[]):num B l=num B l.dropLast+B^(l.length-1)*(l.getLast h).toNat:=by
 conv=>lhs; rw [<-List.dropLast_concat_getLast h]
 rw [qa8]
 simp [num]
theorem qui{B:Nat}{l:List Int}(hd:Dig B l)(hc:qn6 l)(h:l≠[]):B^(l.length-1)<=num B l:=by
 rw [qqj B l h]
 have h1:=hc h
 have h2:=hd _ (List.getLast_mem h)
 have:B^(l.length-1)*1<=B^(l.length-1)*(l.getLast h).toNat:=Nat.mul_le_mul_left _ (by omega)
 omega
theorem qkw{B:Nat}(hB:0 < B){l:List Int}(hd:Dig B l)(hg:l≠[]->B^(l.length-1)<=num B l):qn6 l:=fun h h0=>by
 have h1:=hg h
 rw [qqj B l h,h0] at h1
 have h2:=qc0 B hB l.dropLast fun x hx=>hd x (List.dropLast_subset _ hx)
 simp at h1 h2
 omega
def part(l:List Int)(i t:Nat):List Int:=(l.take t).drop i
theorem qgo(l:List Int)(t:Nat):part l t t=[]:=by
 unfold part
 rw [List.drop_eq_nil_of_le (by simp; omega)]
theorem qm1(B:Nat)(l:List Int){i t:Nat}(hi:i < t)(ht:t<=l.length):num B (part l i t)=(l[i]?.getD 0).toNat+B*num B (part l (i+1) t):=by
 unfold part
 rw [List.drop_eq_getElem_cons (by simp; omega)]
 simp only [num,List.getElem_take]
 rw [List.getElem?_eq_getElem (by omega)]
 rfl
theorem qhk(B:Nat)(l:List Int){i t:Nat}(hi:i<=t)(_ht:i<=l.length):num B (l.take t)=num B (l.take i)+B^i*num B (part l i t):=by
 rw [qd5 B (l.take t) i,List.take_take,Nat.min_eq_left hi]
 rfl
theorem qli{B:Nat}(hB:0 < B){l:List Int}(hd:Dig B l){i t k:Nat}(h:t<=i+k):num B (part l i t) < B^k:=by
 have h1:=qc0 B hB (part l i t) fun x hx=>hd x (List.mem_of_mem_take (List.mem_of_mem_drop hx))
 have h2:B^(part l i t).length<=B^k:=Nat.pow_le_pow_right hB (by unfold part; simp; omega)
 omega
end Dy
end Go.Proofs.YtmbppgjhdcmckaaGreatDoor
namespace Go.Proofs.YtmbppgjhdcmckaaGreatDoor
namespace Dp
open Dy
theorem qpz:∀ (k j M:Nat),j<=k->(j=k∨M%2=1)->qci k (M*2^j)=(M,k-j)
 | 0,0,M,_,_=>by simp [qci]
 | k+1,0,M,_,h=>by
  have hm:M%2=1:=by omega
  simp [qci,hm]
 | k+1,j+1,M,hj,h=>by
  have e:M*2^(j+1)=2*(M*2^j):=by rw [Nat.pow_succ,<-Nat.mul_assoc,Nat.mul_comm]
  have ih:=qpz k j M (by omega) (by omega)
  rw [qci,e,if_pos (Nat.mul_mod_right ..),Nat.mul_div_cancel_left _ (by decide),ih]
  congr 1
  omega
 | 0,j+1,_,hj,_=>absurd hj (by omega)
theorem qnh{s:Bool}{N k j M:Nat}(hN:N=M*2^j)(h0:N≠0)(hj:j<=k)(ho:j=k∨M%2=1)(hk:k<=1024):qa4 s N k=if M < qjq then (⟨s,M,k-j⟩,0) else (Dn.zero,10):=by
 unfold qa4
 rw [if_neg h0,hN,qpz k j M hj ho]
 have:k-j<=1024:=by omega
 simp [this]
theorem qoy{s:Bool}{k:Nat}:qa4 s 0 k=(Dn.zero,0):=by simp [qa4]
theorem b32(k:Nat):(4294967296:Nat)^k=2^(32*k):=by rw [Nat.pow_mul]
theorem qqg{ws:List Int}{N n lo hi:Nat}(hd:Dig 4294967296 ws)(hl:hi<=ws.length)(hN:num 4294967296 ws=N)(hn:qj4 N n)(h0:N≠0)(hhi:(n+31)/32=hi)(hlo:lo < hi) :
  num 4294967296 (Dy.part ws lo hi)=N/4294967296^lo/\(Dy.part ws lo hi).length=hi-lo/\qn6 (Dy.part ws lo hi)/\Dig 4294967296 (Dy.part ws lo hi):=by
 obtain⟨n0,n1,n2⟩:=hn.resolve_left (fun h=>h0 h.1)
 have hlt:N < 4294967296^hi:=by
  rw [b32]
  exact Nat.lt_of_lt_of_le n2 (Nat.pow_le_pow_right (by decide) (by omega))
 have hsp:=qd5 4294967296 ws hi
 have htk:num 4294967296 (ws.take hi)=N:=by
  rw [hN] at hsp
  rcases Nat.eq_zero_or_pos (num 4294967296 (ws.drop hi)) with h|h
  . rw [h] at hsp
    omega
  have:=Nat.mul_le_mul_left (4294967296^hi) h
  omega
 have hps:=qhk 4294967296 ws (Nat.le_of_lt hlo) (by omega)
 rw [htk] at hps
 have hlt2:=qfz (B:=4294967296) (by decide) hd lo
 have hpos:0 < 4294967296^lo:=Nat.pow_pos (by decide)
 have e1:num 4294967296 (Dy.part ws lo hi)=N/4294967296^lo:=by
  rw [hps,Nat.add_mul_div_left _ _ hpos,Nat.div_eq_of_lt hlt2,Nat.zero_add]
 have hdp:Dig 4294967296 (Dy.part ws lo hi):=fun x hx=>hd x (List.mem_of_mem_take (List.mem_of_mem_drop hx))
 have hlen:(Dy.part ws lo hi).length=hi-lo:=by
  unfold Dy.part
  rw [List.length_drop,List.length_take,Nat.min_eq_left hl]
 refine⟨e1,hlen,qkw (by decide) hdp (fun _=>?_),hdp⟩
 rw [e1,hlen,Nat.le_div_iff_mul_le hpos,<-Nat.pow_add,b32]
 exact Nat.le_trans (Nat.pow_le_pow_right (by decide) (by omega)) n1
theorem qkp{N lo j:Nat}(hlo:j/32=lo):N/4294967296^lo/2^(j%32)=N/2^j:=by
 rw [Nat.div_div_eq_div_mul,b32,<-Nat.pow_add]
 congr 2
 omega
theorem qky{f T:Nat}(hf:f < 4294967296)(hT:T≠0):qaf 4294967296 (f+4294967296*T)=(f:Int)::qaf 4294967296 T:=by
 obtain⟨d,c,n⟩:=qah 4294967296 T (by decide)
 refine (qdx (by decide) ?_ ?_ ?_).symm
 . intro x hx
   rcases List.mem_cons.1 hx with rfl|hx
   . exact⟨by omega,by omega⟩
   exact d x hx
 . intro hne
   have h0:qaf 4294967296 T≠[]:=fun h=>hT (qc5 (by decide) h)
   rw [List.getLast_cons h0]
   exact c h0
 simp only [num,n,Int.toNat_natCast]
theorem qe6{M k:Nat}(h:M < 4294967296^k):(qaf 4294967296 M).length<=k:=by
 by_cases h0:qaf 4294967296 M=[]
 . rw [h0]
   exact Nat.zero_le _
 obtain⟨d,c,n⟩:=qah 4294967296 M (by decide)
 have h1:=qui d c h0
 rw [n] at h1
 by_cases hle:(qaf 4294967296 M).length<=k
 . exact hle
 have:=Nat.pow_le_pow_right (show 0 < 4294967296 by decide) (show k<=(qaf 4294967296 M).length-1 by omega)
 omega
theorem qhs{x y r:Nat}(hx:x < 4294967296)(hr0:0 < r)(hr:r < 32) :
  y*2^(32-r)%4294967296%2^(32-r)=0/\x/2^r < 2^(32-r)/\(x/2^r+y*2^(32-r)%4294967296)=(y*4294967296+x)/2^r%4294967296:=by
 have hb:(4294967296:Nat)=2^r*2^(32-r):=by rw [<-Nat.pow_add,show r+(32-r)=32 by omega]
 have hb2:(4294967296:Nat)=2^(32-r)*2^r:=by rw [Nat.mul_comm]; exact hb
 have h1:y*2^(32-r)%4294967296%2^(32-r)=0:=by
  conv=>lhs; lhs; rw [hb2,Nat.mul_comm y]
  rw [Nat.mul_mod_mul_left]
  exact Nat.mul_mod_right _ _
 have h2:x/2^r < 2^(32-r):=by
  rw [Nat.div_lt_iff_lt_mul (Nat.pow_pos (by decide)),Nat.mul_comm,<-hb]
  exact hx
 refine⟨h1,h2,?_⟩
 have e:(y*4294967296+x)/2^r=y*2^(32-r)+x/2^r:=by
  have:y*4294967296=2^r*(y*2^(32-r)):=by
   rw [Nat.mul_left_comm,<-hb]
  rw [this,Nat.mul_add_div (Nat.pow_pos (by decide))]
 have h3:y*2^(32-r)%4294967296+2^(32-r)<=4294967296:=by
  obtain⟨c,hc⟩:∃ c,y*2^(32-r)%4294967296=2^(32-r)*c:=⟨_,(Nat.mul_div_cancel' (Nat.dvd_of_mod_eq_zero h1)).symm⟩
  have hlt:y*2^(32-r)%4294967296 < 4294967296:=Nat.mod_lt _ (by decide)
  have hc2:c < 2^r:=by
   refine Nat.lt_of_mul_lt_mul_left (a:=2^(32-r)) ?_
   rw [<-hc,<-hb2]
   exact hlt
  rw [hc]
  calc 2^(32-r)*c+2^(32-r)=2^(32-r)*(c+1):=by rw [Nat.mul_succ]
   _<=2^(32-r)*2^r:=Nat.mul_le_mul_left _ hc2
   _=4294967296:=hb2.symm
 rw [e,Nat.add_mod,Nat.mod_eq_of_lt (show x/2^r < 4294967296 by omega),Nat.mod_eq_of_lt (show y*2^(32-r)%4294967296+x/2^r < 4294967296 by omega),Nat.add_comm]
end Dp
end Go.Proofs.YtmbppgjhdcmckaaGreatDoor