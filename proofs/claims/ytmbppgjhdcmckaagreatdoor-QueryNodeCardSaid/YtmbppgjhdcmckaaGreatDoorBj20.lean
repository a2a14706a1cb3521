/- The reference's descriptors: whether they may be, how two stand, whether two lists are the same: walks. -/
import Derived.Test.YtmbppgjhdcmckaaGreatDoorBj19
import Derived.Deep.RegionLaw
import Derived.Test.YtmbppgjhdcmckaaGreatDoorCaShelfZ
set_option maxHeartbeats 102400000
set_option maxRecDepth 100000
namespace Go.Proofs.YtmbppgjhdcmckaaGreatDoor
open Go.RowKit Go.Sort Go.Shelf
namespace De
theorem q2c(w:World)(x y:Int)(b:Bool)(hb:may (x,y)=b) :
  Calls Tryz.prog 191 #[.agg #[.int .i64 x,.int .i64 y]] w fun e w'=>e=.returned (.bool b)/\Gr w w':=by
 have HB:=Lib.hid hb
 clear hb
 by_cases h1:0<=x
 . by_cases h2:x < 8
   . by_cases h3:0<=y
     . by_cases h4:y<=2147483647
       . obtain rfl:b=true:=by rw [<-HB.out,qdm]; exact⟨h1,h2,h3,h4⟩
         go_enter Tryz.func191,Tryz.ntmps191
         go_wp2
         go_ret
         exact⟨rfl,Gr.alloc (Gr.refl _) _⟩
       obtain rfl:b=false:=by rw [<-HB.out,Bool.eq_false_iff,Ne,qdm]; omega
       go_enter Tryz.func191,Tryz.ntmps191
       go_wp2
       go_ret
       exact⟨rfl,Gr.alloc (Gr.refl _) _⟩
     obtain rfl:b=false:=by rw [<-HB.out,Bool.eq_false_iff,Ne,qdm]; omega
     go_enter Tryz.func191,Tryz.ntmps191
     go_wp2
     go_ret
     exact⟨rfl,Gr.alloc (Gr.refl _) _⟩
   obtain rfl:b=false:=by rw [<-HB.out,Bool.eq_false_iff,Ne,qdm]; omega
   go_enter Tryz.func191,Tryz.ntmps191
   go_wp2
   go_ret
   exact⟨rfl,Gr.alloc (Gr.refl _) _⟩
 obtain rfl:b=false:=by rw [<-HB.out,Bool.eq_false_iff,Ne,qdm]; omega
 go_enter Tryz.func191,Tryz.ntmps191
 go_wp2
 go_ret
 exact⟨rfl,Gr.alloc (Gr.refl _) _⟩
theorem qws(w:World)(x y z u:Int)(b:Bool)(hb:ltB (x,y) (z,u)=b) :
  Calls Tryz.prog 192 #[.agg #[.int .i64 x,.int .i64 y],.agg #[.int .i64 z,.int .i64 u]] w fun e w'=>e=.returned (.bool b)/\Gr w w':=by
 have HB:=Lib.hid hb
 clear hb
 have fin:=((Gr.refl w).alloc (.cells #[.int .i64 x,.int .i64 y] 195)).alloc (.cells #[.int .i64 z,.int .i64 u] 195)
 by_cases h1:u < y
 . obtain rfl:b=true:=by rw [<-HB.out,qfv]; exact .inl h1
   go_enter Tryz.func192,Tryz.ntmps192
   go_wp2
   go_ret
   exact⟨rfl,by first | exact fin.drewN _ | exact fin⟩
 by_cases h2:y=u
 . subst h2
   by_cases h3:x < z
   . obtain rfl:b=true:=by rw [<-HB.out,qfv]; exact .inr ⟨rfl,h3⟩
     go_enter Tryz.func192,Tryz.ntmps192
     go_wp2
     go_ret
     exact⟨rfl,by first | exact fin.drewN _ | exact fin⟩
   obtain rfl:b=false:=by rw [<-HB.out,Bool.eq_false_iff,Ne,qfv]; omega
   go_enter Tryz.func192,Tryz.ntmps192
   go_wp2
   go_ret
   exact⟨rfl,by first | exact fin.drewN _ | exact fin⟩
 obtain rfl:b=false:=by rw [<-HB.out,Bool.eq_false_iff,Ne,qfv]; omega
 have h2':(y==u)=false:=by simpa using h2
 go_enter Tryz.func192,Tryz.ntmps192
 go_wp2
 go_ret
 exact⟨rfl,by first | exact fin.drewN _ | exact fin⟩
theorem qrc(w:World)(lo hi:Nat)(A:Option Addr)(n c:Nat)(xs:List (Int×Int))(hX:Descs w lo hi A n xs)(hhi:hi<=w.heap.size)(r:Int)(hr:qct xs=r) :
  Calls Tryz.prog 157 #[.slice A n c] w fun e w'=>e=.returned (.int .i64 r)/\Gr w w':=by
 have HR:=Lib.hid hr
 have HL:=Lib.hid hX.len
 have hbig:=hX.big
 clear hr
 by_cases h64:n > 64
 . have e:r=4:=by rw [<-HR.out,qct,if_pos (by rw [HL.out]; exact h64)]
   subst e
   go_enter Tryz.func157,Tryz.ntmps157
   go_wp2
   go_ret
   exact⟨rfl,Gr.refl _⟩
 go_enter Tryz.func157,Tryz.ntmps157
 go_wp2
 go_loopw [3] (fun iv wr=>∃ k:Nat,iv=.int .i64 k/\k<=n/\Hid ((xs.take k).all may=true)/\Gr w wr) (fun iv _=>n-(intOf iv).toNat)
 case atStart=>exact⟨0,rfl,Nat.zero_le _,rfl,Gr.refl _⟩
 obtain⟨k,rfl,hk,hall,hg⟩:=hrel
 by_cases hlt:k < n
 . obtain⟨b,off,rfl,h1,h2,hc⟩:=(hX.gr hg hhi).row (by omega)
   obtain⟨⟨g1,_⟩,g3,_⟩:=hc k hlt
   have htk:xs.take (k+1)=xs.take k++[xs[k]?.getD (0,0)]:=by
    rw [List.take_succ_eq_append_getElem (by rw [HL.out]; exact hlt),List.getElem?_eq_getElem (by rw [HL.out]; exact hlt)]
    rfl
   have hmem:xs[k]?.getD (0,0)∈xs:=by rw [List.getElem?_eq_getElem (by rw [HL.out]; exact hlt)]; exact List.getElem_mem _
   clear hc
   generalize xs[k]?.getD (0,0)=z at g1 g3 htk hmem
   obtain⟨z1,z2⟩:=z
   have HT:=Lib.hid htk
   have HM:=Lib.hid hmem
   clear htk hmem
   cases hmz:may (z1,z2) with
   | true =>
    have HMZ:=Lib.hid hmz
    clear hmz
    go_wp2_with fail
    refine (q2c _ z1 z2 true HMZ.out).mono ?_
    rintro e w1 ⟨rfl,hg1⟩
    go_wp2
    go_roundw
    case rel=>exact⟨k+1,by go_num,by omega,by rw [Hid,HT.out,List.all_append,hall.out]; simp [HMZ.out],hg.trans hg1⟩
    case measure=>simp [intOf]; omega
   | false =>
    have HMZ:=Lib.hid hmz
    clear hmz
    have e:r=8:=by
     rw [<-HR.out,qct,if_neg (by rw [HL.out]; exact h64),if_neg]
     intro h
     have:=List.all_eq_true.1 h _ HM.out
     rw [HMZ.out] at this
     cases this
    subst e
    go_wp2_with fail
    refine (q2c _ z1 z2 false HMZ.out).mono ?_
    rintro e w1 ⟨rfl,hg1⟩
    go_wp2
    go_ret
    exact⟨rfl,hg.trans hg1⟩
 obtain rfl:k=n:=by omega
 have e:r=0:=by
  have h:=hall.out
  rw [List.take_of_length_le (by rw [HL.out]; exact Nat.le_refl _)] at h
  rw [<-HR.out,qct,if_neg (by rw [HL.out]; exact h64),if_pos h]
 subst e
 clear hall
 go_wp2
 go_ret
 exact⟨rfl,hg⟩
theorem qwi(w:World)(lo hi lo' hi':Nat)(A A':Option Addr)(n c n' c':Nat)(xs ys:List (Int×Int))(hX:Descs w lo hi A n xs)(hY:Descs w lo' hi' A' n' ys)(r:Bool)(hr:Sm xs ys=r) :
  Calls Tryz.prog 108 #[.slice A n c,.slice A' n' c'] w fun e w'=>e=.returned (.bool r)/\∃ m,w'=w.drewN m:=by
 have HR:=Lib.hid hr
 have HL:=Lib.hid hX.len
 have HL':=Lib.hid hY.len
 have hbig:=hX.big
 have hbig':=hY.big
 clear hr
 by_cases hn:n=n'
 . subst hn
   have hne:((n:Int) != (n:Int))=false:=by simp
   go_enter Tryz.func108,Tryz.ntmps108
   go_wp2
   go_loopw [5] (fun i wr=>∃ k m:Nat,i=.int .i64 k/\k<=n/\Hid (xs.take k=ys.take k)/\wr=w.drewN m) (fun i _=>n-(intOf i).toNat)
   case atStart=>exact⟨0,0,rfl,Nat.zero_le _,rfl,rfl⟩
   obtain⟨k,m,rfl,hk,heq,rfl⟩:=hrel
   by_cases hlt:k < n
   . obtain⟨b,off,rfl,h1,h2,hc⟩:=hX.row (by omega)
     obtain⟨b',off',rfl,h1',h2',hc'⟩:=hY.row (by omega)
     obtain⟨⟨g1,_⟩,g3,_⟩:=hc k hlt
     obtain⟨⟨f1,_⟩,f3,_⟩:=hc' k hlt
     clear hc hc'
     have hkn:(k:Int) < n:=by omega
     have hk0:(0:Int)<=k:=by omega
     generalize hx:xs[k]?.getD (0,0)=x at g1 g3
     generalize hy:ys[k]?.getD (0,0)=y at f1 f3
     obtain⟨x1,x2⟩:=x
     obtain⟨y1,y2⟩:=y
     have HX:=Lib.hid hx
     have HY:=Lib.hid hy
     have hneq:=fun W=>neqD W x1 x2 y1 y2
     have hgd:=qqt
     clear hx hy
     by_cases hxy:x1=y1/\x2=y2
     . obtain⟨rfl,rfl⟩:=hxy
       rw [show (!(x1==x1 && x2==x2))=false by simp] at hneq
       go_wp2
       go_quiet (fail)
       go_wp2
       go_roundw
       case rel=>exact⟨k+1,_,by go_num,by omega,qiz (by rw [HL.out]; exact hlt) (by rw [HL'.out]; exact hlt) heq.out (by rw [HX.out,HY.out]),by first | rfl | exact World.drewN_drewN _ _ _⟩
       case measure=>simp [intOf]; omega
     have hf:(!(x1==y1 && x2==y2))=true:=by
      by_cases h1:x1=y1
      . have h2:x2≠y2:=fun h=>hxy ⟨h1,h⟩
        simp [h2]
      simp [h1]
     rw [hf] at hneq
     have e:r=false:=by
      rw [<-HR.out]
      unfold Sm
      rw [beq_eq_false_iff_ne]
      intro h
      have h3:=HX.out
      rw [h,HY.out] at h3
      have h4:=Prod.mk.inj h3
      exact hxy ⟨h4.1.symm,h4.2.symm⟩
     subst e
     go_wp2
     go_quiet (fail)
     go_wp2
     go_ret
     exact⟨rfl,_,World.drewN_drewN _ _ _⟩
   obtain rfl:k=n:=by omega
   have e:r=true:=by
    rw [<-HR.out]
    unfold Sm
    have h:=heq.out
    rw [List.take_of_length_le (by rw [HL.out]; exact Nat.le_refl _),List.take_of_length_le (by rw [HL'.out]; exact Nat.le_refl _)] at h
    rw [h]
    exact beq_self_eq_true _
   subst e
   clear heq
   go_wp2
   go_ret
   exact⟨rfl,_,rfl⟩
 have hne:((n:Int) != (n':Int))=true:=by rw [bne_iff_ne]; omega
 have e:r=false:=by
  rw [<-HR.out]
  unfold Sm
  rw [beq_eq_false_iff_ne]
  intro h
  have h1:=HL.out
  have h2:=HL'.out
  rw [h] at h1
  omega
 subst e
 go_enter Tryz.func108,Tryz.ntmps108
 go_wp2
 go_ret
 exact⟨rfl,0,rfl⟩
theorem qp3:∀ (l:List (Int×Int)) (s:List Int) (y:Int),y∈stF qic s l↔y∈s∨∃ d∈l,d.1=y
 | [],s,y=>by simp [stF]
 | x::l,s,y=>by
  simp only [stF]
  rw [qp3 l (qic s x) y]
  unfold qic
  by_cases h:x.1∈s
  . rw [if_pos h]
    constructor
    . rintro (h1 | ⟨d,hd,e⟩)
      . exact .inl h1
      exact .inr ⟨d,List.mem_cons_of_mem _ hd,e⟩
    rintro (h1|⟨d,hd,e⟩)
    . exact .inl h1
    rcases List.mem_cons.1 hd with rfl|hd
    . exact .inl (e▸h)
    exact .inr ⟨d,hd,e⟩
  rw [if_neg h]
  constructor
  . rintro (h1 | ⟨d,hd,e⟩)
    . rcases List.mem_cons.1 h1 with rfl | h1
      . exact .inr ⟨x,List.mem_cons_self ..,rfl⟩
      exact .inl h1
    exact .inr ⟨d,List.mem_cons_of_mem _ hd,e⟩
  rintro (h1|⟨d,hd,e⟩)
  . exact .inl (List.mem_cons_of_mem _ h1)
  rcases List.mem_cons.1 hd with rfl|hd
  . exact .inl (by rw [<-e]; exact List.mem_cons_self ..)
  exact .inr ⟨d,hd,e⟩
def ql9(xs:List (Int×Int))(k:Nat)(y:Int):Bool:=(xs.take k).any fun d=>d.1==y
theorem qs6(xs:List (Int×Int)){k:Nat}(hk:k < xs.length)(y:Int):ql9 xs (k+1) y=(ql9 xs k y || (xs[k]?.getD (0,0)).1==y):=by
 unfold ql9
 rw [List.take_succ_eq_append_getElem hk,List.any_append,List.getElem?_eq_getElem hk]
 simp
theorem qoz(xs:List (Int×Int)){k:Nat}(hk:k < xs.length):qdw [] (xs.take (k+1))=qdw [] (xs.take k)++if ql9 xs k (xs[k]?.getD (0,0)).1=true then [] else [xs[k]?.getD (0,0)]:=by
 rw [List.getElem?_eq_getElem hk]
 simp only [Option.getD_some]
 rw [List.take_succ_eq_append_getElem hk,<-qe4,<-qe4,qe3]
 congr 1
 have:qog (stF qic [] (xs.take k)) xs[k]=ql9 xs k xs[k].1:=by
  unfold qog ql9
  rw [Bool.eq_iff_iff,decide_eq_true_iff,qp3,List.any_eq_true]
  simp
 rw [this]
theorem qps(w:World)(lo hi:Nat)(A:Option Addr)(n c:Nat)(xs:List (Int×Int))(hX:Descs w lo hi A n xs)(hhi:hi<=w.heap.size)(hn:n<=1000000) :
  Calls Tryz.prog 158 #[.slice A n c] w fun e w'=>∃ A' n' c',e=.returned (.slice A' n' c')/\n'<=c'/\n'<=n/\Below w.heap.size w w'/\Descs w' w.heap.size w'.heap.size A' n' (qdw [] xs):=by
 have HL:=Lib.hid hX.len
 obtain⟨i0,hi0,hz0,hz1,hz2⟩:=info_parts Tryz.info195
 go_enter Tryz.func158,Tryz.ntmps158
 go_wp2
 go_loopw [3,4,5,6] (fun v iv _ _ wr=>∃ i m:Nat,iv=.int .i64 i/\i<=n/\m<=i/\wr.ownsRow w.heap.size 195 2 v m (qbe (qdw [] (xs.take i)))/\Below w.heap.size w wr)
  (fun _ iv _ _ _=>n-(intOf iv).toNat)
 case atStart=>exact⟨0,0,rfl,Nat.zero_le _,Nat.le_refl _,World.ownsRow_nil _ _ _ _,Below.refl _ _⟩
 obtain⟨i,m,rfl,hi',hm,hown,hnx⟩:=hrel
 obtain⟨Av,cv,rfl,hcv,_⟩:=qbb hown
 by_cases hlt:i < n
 . obtain⟨b,off,rfl,h1,h2,hc⟩:=(hX.below hnx hhi).row (by omega)
   obtain⟨⟨g1,_⟩,g3,_⟩:=hc i hlt
   have hC:=Lib.hid hc
   have hfs:=qoz xs (k:=i) (by rw [HL.out]; exact hlt)
   have hrng:=hX.at_ i
   clear hc
   generalize hz:xs[i]?.getD (0,0)=z at g1 g3 hfs hrng
   obtain⟨z1,z2⟩:=z
   have HZ:=Lib.hid hz
   have HFS:=Lib.hid hfs
   have hin:(i:Int) < n:=by omega
   have hi0':(0:Int)<=i:=by omega
   clear hz hfs
   go_wp2
   go_loopw [5,6] (fun tv kv ww=>∃ k q:Nat,kv=.int .i64 k/\k<=i/\tv=.bool (ql9 xs k z1)/\ww=wr.drewN q) (fun _ kv _=>i-(intOf kv).toNat)
   case atStart=>exact⟨0,0,rfl,Nat.zero_le _,rfl,rfl⟩
   obtain⟨k,q,rfl,hk,rfl,rfl⟩:=hrel
   by_cases hki:k < i
   . obtain⟨⟨f1,_⟩,_,_⟩:=hC.out k (by omega)
     have hsn:=qs6 xs (k:=k) (by rw [HL.out]; omega) z1
     have hk0:(0:Int)<=k:=by omega
     have hkn:(k:Int) < n:=by omega
     have hkl:(k:Int) < i:=by omega
     generalize (xs[k]?.getD (0,0)).1=y at f1 hsn
     cases ht:ql9 xs k z1 with
     | true =>
      rw [ht,Bool.true_or] at hsn
      have HSN:=Lib.hid hsn
      clear hsn ht
      go_wp2
      go_quiet (fail)
      go_wp2
      go_roundw
      case rel=>exact⟨k+1,_,by go_num,by omega,by rw [HSN.out],by first | rfl | exact World.drewN_drewN _ _ _⟩
      case measure=>simp [intOf]; omega
     | false =>
      rw [ht,Bool.false_or] at hsn
      obtain⟨bb,hbb⟩:∃ bb,(y==z1)=bb:=⟨_,rfl⟩
      rw [hbb] at hsn
      have HSN:=Lib.hid hsn
      clear hsn ht
      go_wp2
      go_quiet (fail)
      go_wp2
      go_roundw
      case rel=>exact⟨k+1,_,by go_num,by omega,by rw [HSN.out],by first | rfl | exact World.drewN_drewN _ _ _⟩
      case measure=>simp [intOf]; omega
   obtain rfl:k=i:=by omega
   cases ht:ql9 xs k z1 with
   | true =>
    have hfs:=HFS.out
    rw [if_pos ht,List.append_nil] at hfs
    have HF:=Lib.hid hfs
    clear hfs HFS ht
    go_wp2
    go_roundw
    case rel=>exact⟨k+1,m,by go_num,by omega,by omega,by rw [HF.out]; exact hown,qbg hnx _⟩
    case measure=>simp [intOf]; omega
   | false =>
    have hfs:=HFS.out
    rw [if_neg (by rw [ht]; simp)] at hfs
    have HF:=Lib.hid hfs
    have hownd:(wr.drewN q).ownsRow w.heap.size 195 2 (.slice Av m cv) m (qbe (qdw [] (xs.take k))):=hown
    have hnd:=qbg hnx q
    have hsz:=hnx.size
    clear hfs HFS ht hown
    go_wp2_with (first
     | (at_builtin; refine qag _ rfl (.tmp 34) (.tmp 39) 57 rfl w.heap.size 195 i0 _ 2 16 Tryz.underlying57 hi0 hz0 hz1 hz2 rfl (by decide) _ _ _ rfl (hownd.alloc _) _ _ _ 1 1 (qbe [(z1,z2)]) rfl (qxf _ (z1,z2) _) ?c1 ?c2 ?c3 ?c4 ?_))
    case c1=>exact flatD_one _
    case c2=>unfold maxLen; omega
    case c3=>omega
    case c4=>simp; omega
    intro A2 c2 w2 hown2 hgrow2 _
    have hb2:Below w.heap.size w w2:=(hnd.alloc (by simp; omega) _).grown hgrow2 (by simp; omega) (fun q hq=>(hownd.lt q hq).1)
    rw [<-qbn] at hown2
    have hown3:w2.ownsRow w.heap.size 195 2 (.slice A2 (m+1) c2) (m+1) (qbe (qdw [] (xs.take (k+1)))):=by rw [HF.out]; exact hown2
    clear hgrow2 hown2 hownd
    go_wp2
    go_roundw
    case rel=>exact⟨k+1,m+1,by go_num,by omega,by omega,hown3,hb2⟩
    case measure=>simp [intOf]; omega
 obtain rfl:i=n:=by omega
 rw [List.take_of_length_le (by rw [HL.out]; exact Nat.le_refl _)] at hown
 have hD:=Descs.of_own hown (fun x hx=>hX.wf x ((qfo xs []).subset hx)) (by omega)
 have HD:=Lib.hid hD
 clear hown hD
 go_wp2
 go_ret
 exact⟨Av,m,cv,rfl,hcv,hm,hnx,HD.out⟩
end De
end Go.Proofs.YtmbppgjhdcmckaaGreatDoor
namespace Go.Proofs.YtmbppgjhdcmckaaGreatDoor
open Go.RowKit Go.Sort Go.Shelf
theorem qa6{P:Program}{ops:Array Oper}{o:Oper}{a:Act}{w:World}{K:Act->World->Prop}{Q:Exit->Act->World->Prop}{E:Prop}(hgd:o.guard=none)(s x:Operand)(t:TypeId)
  (ho:o.op=.call { callee:=.builtin .append,args:=#[s,x],argTypes:=#[t,t] })
  (base:Nat) (e:TypeId) (i:TypeInfo) (z:Value) (size bytes:Nat) (ht:P.underlying t=some (.slice e)) (hi:P.info? e=some i) (hz:i.zero=some z)
  (hsize:i.size=size) (hby:i.bytes=bytes) (hzs:z.cells.size=size) (hsz:0 < size)
  (v:Value) (n:Nat) (xs:List Value) (hs:a.eval s=v) (hown:w.ownsRow base e size v n xs)
  (lo hi':Nat) (A:Option Addr) (m c:Nat) (news:List Value) (hx:a.eval x=.slice A m c) (hr:Raw w lo hi' A (m*size) news) (h1:∀ u∈news,u.oneCell'=true)
  (h63:n+m<=maxLen) (hbytes:(n+m)*bytes<=140737488355328) (hbase:base<=w.heap.size)
  (h:∀ A' c' w',w'.ownsRow base e size (.slice A' (n+m) c') (n+m) (xs++news)->w.grownBy w' v.ownBlock->((Value.slice A' (n+m) c').ownBlock=v.ownBlock∨(Value.slice A' (n+m) c').ownBlock=some w.heap.size) ->
   K (a.put o.dst (.slice A' (n+m) c')) w') :
  if Region.wanted o (yielded ops a.tmps)=true then Oper.wp P o a w K Q else E:=by
 have hw:Region.wanted o (yielded ops a.tmps)=true:=by simp [Region.wanted,hgd]
 rw [if_pos hw]
 obtain⟨A',c',w',hr,h2,h3,h5⟩:=qcv (P:=P) w base t o.type e i z size bytes ht hi hz hsize hby hzs hsz v n xs hown lo hi' A m c news hr h1 h63 hbytes hbase
 unfold Oper.wp execOp
 simp only [ho,resolve,invoke,builtin,Sem.run_bind,Sem.run_pure,Result.andThen_ok,List.map_toArray,List.map_cons,List.map_nil,hs,hx,hr]
 exact h A' c' w' h2 h3 h5
theorem qll{w:World}{base base':Nat}{e:TypeId}{size n:Nat}{v:Value}{xs:List Value}(h:w.ownsRow base e size v n xs)(hb:base'<=base):w.ownsRow base' e size v n xs:=by
 obtain⟨h1,h2⟩:=h
 refine⟨h1,?_⟩
 rcases h2 with h2|⟨g,cap,cur,hv,hg,rest⟩
 . exact .inl h2
 exact .inr ⟨g,cap,cur,hv,by omega,rest⟩
theorem qa7(w:World)(o:Obj)(g:Nat)(h:g=w.heap.size):(w.alloc o).heap[g]? = some o:=by
 subst h
 exact heap_alloc_new w o
theorem qlk{w:World}{base g:Nat}{e:TypeId}{size:Nat}(h:w.heap[g]? = some (.cells #[] e (0,0)))(hb:base<=g):w.ownsRow base e size (.slice (some ⟨g,0,none⟩) 0 0) 0 [] :=
 ⟨by simp,.inr ⟨g,0,#[],rfl,hb,h,by simp,by simp [maxLen],by simp,by simp⟩⟩
namespace De
theorem qgk(w:World)(g:Nat)(x:Int×Int)(t:TypeId)(h:w.heap[g]? = some (.cells #[.int .i64 x.1,.int .i64 x.2] t (0,0))):Raw w g (g+1) (some ⟨g,0,none⟩) (1*2) (qbe [x]):=by
 refine⟨rfl,fun _=>⟨g,0,rfl,Nat.le_refl _,by omega,fun j hj=>?_⟩⟩
 rw [cell_of_row w g _ _ _ _ h]
 refine⟨?_,frozen_of_row w g _ _ _ h⟩
 obtain rfl|rfl:j=0∨j=1:=by omega
 . rfl
 rfl
theorem qu5(d:Int×Int):∀ (l:List (Int×Int)) (a:Nat),a<=l.length->(∀ j,j < a->ltB d (l[j]?.getD (0,0))=false)->(a=l.length∨ltB d (l[a]?.getD (0,0))=true)->ins d l=l.take a++d::l.drop a
 | [],a,h,_,_=>by
  obtain rfl:a=0:=by simpa using h
  rfl
 | x::l,0,_,_,h=>by
  have h':=h.resolve_left (by simp)
  simp only [List.getElem?_cons_zero,Option.getD_some] at h'
  simp [ins,h']
 | x::l,a+1,hl,hn,h=>by
  have h0:=hn 0 (by omega)
  simp only [List.getElem?_cons_zero,Option.getD_some] at h0
  simp only [ins,h0,List.take_succ_cons,List.drop_succ_cons,List.cons_append]
  rw [qu5 d l a (by simpa using hl) (fun j hj=>by simpa using hn (j+1) (by omega)) (by simpa using h)]
  rfl
theorem qw1(xs:List (Int×Int)){k:Nat}(hk:k < xs.length):srt (xs.take (k+1))=ins (xs[k]?.getD (0,0)) (srt (xs.take k)):=by
 rw [List.take_succ_eq_append_getElem hk,List.getElem?_eq_getElem hk]
 unfold srt
 rw [List.foldl_append]
 rfl
theorem qph(w:World)(lo hi:Nat)(A:Option Addr)(n c:Nat)(xs:List (Int×Int))(hX:Descs w lo hi A n xs)(hhi:hi<=w.heap.size)(hn:n<=1000000) :
  Calls Tryz.prog 159 #[.slice A n c] w fun e w'=>∃ A' c',e=.returned (.slice A' n c')/\n<=c'/\Below w.heap.size w w'/\Descs w' w.heap.size w'.heap.size A' n (srt xs):=by
 have HL:=Lib.hid hX.len
 have mixed:Tryz.prog.follows .mixedOrders=true:=by kernel_rfl
 obtain⟨i0,hi0,hz0,hz1,hz2⟩:=info_parts Tryz.info195
 go_enter Tryz.func159,Tryz.ntmps159
 go_wp2
 go_loopw [3,4,5] (fun v iv _ wr=>∃ i:Nat,iv=.int .i64 i/\i<=n/\wr.ownsRow w.heap.size 195 2 v i (qbe (srt (xs.take i)))/\Below w.heap.size w wr)
  (fun _ iv _ _=>n-(intOf iv).toNat)
 case atStart=>exact⟨0,rfl,Nat.zero_le _,World.ownsRow_nil _ _ _ _,Below.refl _ _⟩
 obtain⟨i,rfl,hi',hown,hnx⟩:=hrel
 obtain⟨Av,cv,rfl,hcv,_⟩:=qbb hown
 have hsz:=hnx.size
 by_cases hlt:i < n
 . obtain⟨b,off,rfl,h1,h2,hc⟩:=(hX.below hnx hhi).row (by omega)
   obtain⟨⟨g1,_⟩,g3,_⟩:=hc i hlt
   have hsn:=qw1 xs (k:=i) (by rw [HL.out]; exact hlt)
   have hrng:=hX.at_ i
   clear hc
   generalize hz:xs[i]?.getD (0,0)=z at g1 g3 hsn hrng
   obtain⟨z1,z2⟩:=z
   have hwf:∀ x∈srt (xs.take i),Rng x:=fun x hx=>hX.wf x (List.mem_of_mem_take (qod.1 hx))
   have hDo:=Descs.of_own hown hwf (by omega)
   generalize hout:srt (xs.take i)=out at hown hsn hwf hDo
   have hol:out.length=i:=hDo.len
   have HOL:=Lib.hid hol
   have HSN:=Lib.hid hsn
   have hin:(i:Int) < n:=by omega
   have hi0':(0:Int)<=i:=by omega
   clear hz hout hol hsn
   obtain⟨wo,rfl⟩:∃ wo:World,wo=wr:=⟨_,rfl⟩
   go_wp2
   go_loopw [5] (fun av ww=>∃ a:Nat,av=.int .i64 a/\a<=i/\Hid (∀ j,j < a->ltB (z1,z2) (out[j]?.getD (0,0))=false)/\Gr wo ww) (fun av _=>i-(intOf av).toNat)
   case atStart=>exact⟨0,rfl,Nat.zero_le _,fun j hj=>absurd hj (by omega),Gr.refl _⟩
   obtain⟨a,rfl,ha,hall,hg⟩:=hrel
   have hDw:=hDo.gr hg (Nat.le_refl _)
   have hsw:=hg.below.size
   have k1:=Below.keepCell hg.below (show b < wo.heap.size by omega) g1
   have k2:=Below.keepCell hg.below (show b < wo.heap.size by omega) g3
   have ha0:(0:Int)<=a:=by omega
   have hac:(a:Int)<=cv:=by omega
   by_cases hai:a < i
   . obtain⟨gb,rfl⟩:∃ gb,Av=some ⟨gb,0,none⟩:=by
       rcases hown.2 with ⟨h3,_⟩|⟨gb,cap,cur,hv,_⟩
       . injection h3 with _ h4 h5
         omega
       injection hv with hv
       exact⟨gb,hv⟩
     obtain⟨gb',off',e,_,hgb,hcell⟩:=hDw.row (by omega)
     injection e with e
     injection e with e1 e2
     subst e1
     subst e2
     obtain⟨⟨p1,_⟩,p3,_⟩:=hcell a hai
     have hia:(a:Int) < i:=by omega
     have hzo:∀ m os,(grow (wr.drewN m) os).cell? ⟨b,off+i*2,none⟩=some (.int .i64 z1):=fun m os=>cell_grown (by show b < wr.heap.size; omega) k1 m os
     have hzp:∀ m os,(grow (wr.drewN m) os).cell? ⟨b,off+i*2+1,none⟩=some (.int .i64 z2):=fun m os=>cell_grown (by show b < wr.heap.size; omega) k2 m os
     generalize hy:out[a]?.getD (0,0)=y at p1 p3
     obtain⟨y1,y2⟩:=y
     have hyo:∀ m os,(grow (wr.drewN m) os).cell? ⟨gb,0+a*2,none⟩=some (.int .i64 y1):=fun m os=>cell_grown (by show gb < wr.heap.size; omega) p1 m os
     have hyp:∀ m os,(grow (wr.drewN m) os).cell? ⟨gb,0+a*2+1,none⟩=some (.int .i64 y2):=fun m os=>cell_grown (by show gb < wr.heap.size; omega) p3 m os
     have HY:=Lib.hid hy
     have hz0:(0:Nat)+a*2=a*2:=Nat.zero_add _
     rw [hz0] at hyo hyp
     clear hy hcell p1 p3 hz0
     cases hlt2:ltB (z1,z2) (y1,y2) with
     | false =>
      have HLT:=Lib.hid hlt2
      have hall2:Hid (∀ j,j < a+1->ltB (z1,z2) (out[j]?.getD (0,0))=false):=fun j hj=>by
       by_cases e:j=a
       . subst e
         rw [HY.out]
         exact HLT.out
       exact hall.out j (by omega)
      clear hlt2 hall HY
      go_wp2_with fail
      go_quiet_grown ((go_at_call 192; with_reducible exact Calls.gr (qws _ z1 z2 y1 y2 false HLT.out)))
      dsimp only
      generalize hw:grow (wr.drewN nq) osq=wr2
      have hg2:=hg.trans ⟨nq,osq,hw.symm⟩
      clear hw hzo hzp hyo hyp
      go_wp2
      go_roundw
      case rel=>exact⟨a+1,by go_num,by omega,hall2,hg2⟩
      case measure=>simp [intOf]; omega
     | true =>
      have HLT:=Lib.hid hlt2
      have hins:=qu5 (z1,z2) out a (by rw [HOL.out]; omega) hall.out (.inr (by rw [HY.out]; exact hlt2))
      have HINS:=Lib.hid hins
      clear hlt2 hall HY hins
      go_wp2_with fail
      go_quiet_grown ((go_at_call 192; with_reducible exact Calls.gr (qws _ z1 z2 y1 y2 true HLT.out)))
      dsimp only
      generalize hww:grow (wr.drewN nq) osq=ww2
      have hgw:Gr wr ww2:=⟨nq,osq,hww.symm⟩
      have hg2:=hg.trans hgw
      have hs2:=hg2.below.size
      have l1:ww2.cell? ⟨b,off+i*2,none⟩=some (.int .i64 z1):=by rw [<-hww]; exact hzo nq osq
      have l2:ww2.cell? ⟨b,off+i*2+1,none⟩=some (.int .i64 z2):=by rw [<-hww]; exact hzp nq osq
      have hT:=hDw.gr hgw hsw
      have hT1:=(hT.take_ (m:=a) ha).more (lo':=w.heap.size) (hi':=ww2.heap.size) (Nat.le_refl _) hs2
      have hT2:=(hT.drop_ ha).more (lo':=w.heap.size) (hi':=ww2.heap.size) (Nat.le_refl _) hs2
      have hadd:(⟨gb,0,none⟩:Addr).add (a*2)=⟨gb,a*2,none⟩:=by unfold Addr.add; split<;>simp_all
      rw [hadd] at hT2
      have la1:∀ o,(ww2.alloc o).cell? ⟨b,off+i*2,none⟩=some (.int .i64 z1):=fun o=>(World.cell?_alloc_lt _ _ _ (show b < ww2.heap.size by omega)).trans l1
      have la2:∀ o,(ww2.alloc o).cell? ⟨b,off+i*2+1,none⟩=some (.int .i64 z2):=fun o=>(World.cell?_alloc_lt _ _ _ (show b < ww2.heap.size by omega)).trans l2
      have hac2:(a:Int) < cv:=by omega
      have hac3:¬ (cv:Int)=a:=by omega
      have hac4:¬ cv=a:=by omega
      clear hww hgw k1 k2 hDw hT hg hzo hzp hyo hyp hadd HLT
      go_wp2_with fail
      go_region_law (first
       | (refine qa6 (by rfl) (.tmp 30) (.tmp 33) 57 (by rfl) ww2.heap.size 195 i0 _ 2 16 Tryz.underlying57 hi0 hz0 hz1 hz2 (by rfl) (by decide) _ _ _ (by rfl) (qlk (by first | exact qa7 _ _ _ (by simp) | exact (Below.heap_alloc _ _ _ (by simp)).trans (qa7 _ _ _ (by simp))) (by first | omega | (simp; done) | (simp; omega))) _ _ _ a _ (qbe (out.take a)) (by rfl) (hT1.below (by repeat (first | exact Below.refl _ _ | assumption | (refine Below.drew ?_) | (refine Below.alloc ?_ (by first | omega | (simp; done) | (simp; omega)) _))) (Nat.le_refl _)).raw (flatD_one _) (by unfold maxLen; omega) (by omega) (by first | omega | (simp; done) | (simp; omega)) ?_; intro A1 d1 u1 hown1 hgr1 _; (try simp only [Nat.zero_add,List.nil_append] at hown1); have hb1:Below ww2.heap.size ww2 u1:=Below.grown (by repeat (first | exact Below.refl _ _ | assumption | (refine Below.drew ?_) | (refine Below.alloc ?_ (by first | omega | (simp; done) | (simp; omega)) _))) hgr1 (by first | omega | (simp; done) | (simp; omega)) (fun q hq=>by simp [Value.ownBlock] at hq; omega); have m1:=Below.keepCell hb1 (show b < ww2.heap.size by omega) l1; have m2:=Below.keepCell hb1 (show b < ww2.heap.size by omega) l2; have hs1:=hb1.size; (try have hX1:u1.heap[ww2.heap.size+1]? = some (.cells #[.int .i64 z1,.int .i64 z2] 195 (0,0)):=(hgr1.block _ (by simp) (by simp [Value.ownBlock])).trans (qa7 _ _ _ (by simp))); (try have hX0:u1.heap[ww2.heap.size]? = some (.cells #[.int .i64 z1,.int .i64 z2] 195 (0,0)):=(hgr1.block _ (by simp; try omega) (by simp [Value.ownBlock])).trans ((Below.heap_alloc _ _ _ (by simp)).trans (qa7 _ _ _ (by simp)))); clear hgr1)
       | (refine qa6 (by rfl) (.tmp 34) (.tmp 39) 57 (by rfl) ww2.heap.size 195 i0 _ 2 16 Tryz.underlying57 hi0 hz0 hz1 hz2 (by rfl) (by decide) _ _ _ (by rfl) (by first | exact hown1 | exact hown1.alloc _) _ _ _ 1 _ (qbe [(z1,z2)]) (by rfl) (qgk _ _ (z1,z2) 195 (by first | exact qa7 _ _ _ (by simp) | assumption)) (flatD_one _) (by unfold maxLen; omega) (by omega) (by first | omega | (simp; done) | (simp; omega)) ?_; intro A2 d2 u2 hown2 hgr2 _; have hb2:Below ww2.heap.size ww2 u2:=Below.grown (by repeat (first | exact Below.refl _ _ | assumption | (refine Below.drew ?_) | (refine Below.alloc ?_ (by first | omega | (simp; done) | (simp; omega)) _))) hgr2 (by first | omega | (simp; done) | (simp; omega)) (fun q hq=>(hown1.lt q hq).1); have hs2:=hb2.size; clear hgr2 hb1 m1 m2 hs1 hown1)
       | (refine qa6 (by rfl) (.tmp 40) (.tmp 43) 57 (by rfl) ww2.heap.size 195 i0 _ 2 16 Tryz.underlying57 hi0 hz0 hz1 hz2 (by rfl) (by decide) _ _ _ (by rfl) hown2 _ _ _ (i-a) _ (qbe (out.drop a)) (by rfl) (hT2.below (by repeat (first | exact Below.refl _ _ | assumption | (refine Below.drew ?_) | (refine Below.alloc ?_ (by first | omega | (simp; done) | (simp; omega)) _))) (Nat.le_refl _)).raw (flatD_one _) (by unfold maxLen; omega) (by omega) (by first | omega | (simp; done) | (simp; omega)) ?_; intro A3 d3 u3 hown3 hgr3 _; have hb3:Below ww2.heap.size ww2 u3:=Below.grown (by repeat (first | exact Below.refl _ _ | assumption | (refine Below.drew ?_) | (refine Below.alloc ?_ (by first | omega | (simp; done) | (simp; omega)) _))) hgr3 (by first | omega | (simp; done) | (simp; omega)) (fun q hq=>(hown2.lt q hq).1); clear hgr3 hb2 hs2 hown2))
      all_goals
       have hfin:u3.ownsRow w.heap.size 195 2 (.slice A3 (i+1) d3) (i+1) (qbe (srt (xs.take (i+1)))):=by
        have h0:=qll hown3 (show w.heap.size<=ww2.heap.size by omega)
        have e:out.take a++(z1,z2)::out.drop a=out.take a++[(z1,z2)]++out.drop a:=by simp
        rw [HSN.out,HINS.out,e,qbn,qbn]
        have e2:a+1+(i-a)=i+1:=by omega
        rw [e2] at h0
        exact h0
       have hbf:Below w.heap.size w u3:=(hnx.trans (hg2.below.mono (by omega))).trans (hb3.mono (by omega))
       clear hown3 hb3
       (try have hE:a+1+(i-a)=i+1:=by omega)
       go_wp2
       (try rw [hE])
       (try clear hE)
       go_roundw
       case rel=>exact⟨i+1,by go_num,by omega,hfin,hbf⟩
       case measure=>simp [intOf]; omega
   obtain rfl:a=i:=by omega
   have hins:=qu5 (z1,z2) out a (by rw [HOL.out]; exact Nat.le_refl _) hall.out (.inl HOL.out.symm)
   have HINS:=Lib.hid hins
   clear hins hall g1 g3 hDo
   go_wp2
   go_quiet (fail)
   generalize hww:wr.drewN nq=ww2
   have hg2:Gr wo ww2:=by rw [<-hww]; exact hg.drewN _
   have hs2:=hg2.below.size
   have l1:ww2.cell? ⟨b,off+a*2,none⟩=some (.int .i64 z1):=by rw [<-hww]; exact k1
   have l2:ww2.cell? ⟨b,off+a*2+1,none⟩=some (.int .i64 z2):=by rw [<-hww]; exact k2
   have hT:Descs ww2 w.heap.size wo.heap.size Av a out:=by rw [<-hww]; exact hDw.drewN _
   have hT1:=(hT.take_ (m:=a) (Nat.le_refl _)).more (lo':=w.heap.size) (hi':=ww2.heap.size) (Nat.le_refl _) hs2
   have hdr0:out.drop a=[]:=List.drop_eq_nil_of_le (by rw [HOL.out]; exact Nat.le_refl _)
   have hT2:∀ Ad,Descs ww2 w.heap.size ww2.heap.size Ad 0 (out.drop a):=fun Ad=>by rw [hdr0]; exact Descs.nil_ ..
   have la1:∀ o,(ww2.alloc o).cell? ⟨b,off+a*2,none⟩=some (.int .i64 z1):=fun o=>(World.cell?_alloc_lt _ _ _ (show b < ww2.heap.size by omega)).trans l1
   have la2:∀ o,(ww2.alloc o).cell? ⟨b,off+a*2+1,none⟩=some (.int .i64 z2):=fun o=>(World.cell?_alloc_lt _ _ _ (show b < ww2.heap.size by omega)).trans l2
   clear hww k1 k2 hDw hT hg hdr0
   by_cases hca:cv=a
   . obtain rfl:a=cv:=hca.symm
     go_wp2_with fail
     go_region_law (first
      | (refine qa6 (by rfl) (.tmp 30) (.tmp 33) 57 (by rfl) ww2.heap.size 195 i0 _ 2 16 Tryz.underlying57 hi0 hz0 hz1 hz2 (by rfl) (by decide) _ _ _ (by rfl) (qlk (by first | exact qa7 _ _ _ (by simp) | exact (Below.heap_alloc _ _ _ (by simp)).trans (qa7 _ _ _ (by simp))) (by first | omega | (simp; done) | (simp; omega))) _ _ _ a _ (qbe (out.take a)) (by rfl) (hT1.below (by repeat (first | exact Below.refl _ _ | assumption | (refine Below.drew ?_) | (refine Below.alloc ?_ (by first | omega | (simp; done) | (simp; omega)) _))) (Nat.le_refl _)).raw (flatD_one _) (by unfold maxLen; omega) (by omega) (by first | omega | (simp; done) | (simp; omega)) ?_; intro A1 d1 u1 hown1 hgr1 _; (try simp only [Nat.zero_add,List.nil_append] at hown1); have hb1:Below ww2.heap.size ww2 u1:=Below.grown (by repeat (first | exact Below.refl _ _ | assumption | (refine Below.drew ?_) | (refine Below.alloc ?_ (by first | omega | (simp; done) | (simp; omega)) _))) hgr1 (by first | omega | (simp; done) | (simp; omega)) (fun q hq=>by simp [Value.ownBlock] at hq; omega); have m1:=Below.keepCell hb1 (show b < ww2.heap.size by omega) l1; have m2:=Below.keepCell hb1 (show b < ww2.heap.size by omega) l2; have hs1:=hb1.size; (try have hX1:u1.heap[ww2.heap.size+1]? = some (.cells #[.int .i64 z1,.int .i64 z2] 195 (0,0)):=(hgr1.block _ (by simp) (by simp [Value.ownBlock])).trans (qa7 _ _ _ (by simp))); (try have hX0:u1.heap[ww2.heap.size]? = some (.cells #[.int .i64 z1,.int .i64 z2] 195 (0,0)):=(hgr1.block _ (by simp; try omega) (by simp [Value.ownBlock])).trans ((Below.heap_alloc _ _ _ (by simp)).trans (qa7 _ _ _ (by simp)))); clear hgr1)
      | (refine qa6 (by rfl) (.tmp 34) (.tmp 39) 57 (by rfl) ww2.heap.size 195 i0 _ 2 16 Tryz.underlying57 hi0 hz0 hz1 hz2 (by rfl) (by decide) _ _ _ (by rfl) (by first | exact hown1 | exact hown1.alloc _) _ _ _ 1 _ (qbe [(z1,z2)]) (by rfl) (qgk _ _ (z1,z2) 195 (by first | exact qa7 _ _ _ (by simp) | assumption)) (flatD_one _) (by unfold maxLen; omega) (by omega) (by first | omega | (simp; done) | (simp; omega)) ?_; intro A2 d2 u2 hown2 hgr2 _; have hb2:Below ww2.heap.size ww2 u2:=Below.grown (by repeat (first | exact Below.refl _ _ | assumption | (refine Below.drew ?_) | (refine Below.alloc ?_ (by first | omega | (simp; done) | (simp; omega)) _))) hgr2 (by first | omega | (simp; done) | (simp; omega)) (fun q hq=>(hown1.lt q hq).1); have hs2:=hb2.size; clear hgr2 hb1 m1 m2 hs1 hown1)
      | (refine qa6 (by rfl) (.tmp 40) (.tmp 43) 57 (by rfl) ww2.heap.size 195 i0 _ 2 16 Tryz.underlying57 hi0 hz0 hz1 hz2 (by rfl) (by decide) _ _ _ (by rfl) hown2 _ _ _ 0 _ (qbe (out.drop a)) (by rfl) ((hT2 _).below (by repeat (first | exact Below.refl _ _ | assumption | (refine Below.drew ?_) | (refine Below.alloc ?_ (by first | omega | (simp; done) | (simp; omega)) _))) (Nat.le_refl _)).raw (flatD_one _) (by unfold maxLen; omega) (by omega) (by first | omega | (simp; done) | (simp; omega)) ?_; intro A3 d3 u3 hown3 hgr3 _; have hb3:Below ww2.heap.size ww2 u3:=Below.grown (by repeat (first | exact Below.refl _ _ | assumption | (refine Below.drew ?_) | (refine Below.alloc ?_ (by first | omega | (simp; done) | (simp; omega)) _))) hgr3 (by first | omega | (simp; done) | (simp; omega)) (fun q hq=>(hown2.lt q hq).1); clear hgr3 hb2 hs2 hown2))
     all_goals
      have hfin:u3.ownsRow w.heap.size 195 2 (.slice A3 (a+1) d3) (a+1) (qbe (srt (xs.take (a+1)))):=by
       have h0:=qll hown3 (show w.heap.size<=ww2.heap.size by omega)
       have e:out.take a++(z1,z2)::out.drop a=out.take a++[(z1,z2)]++out.drop a:=by simp
       rw [HSN.out,HINS.out,e,qbn,qbn]
       have e2:a+1+0=a+1:=by omega
       rw [e2] at h0
       exact h0
      have hbf:Below w.heap.size w u3:=(hnx.trans (hg2.below.mono (by omega))).trans (hb3.mono (by omega))
      clear hown3 hb3
      (try have hE:a+1+0=a+1:=by omega)
      go_wp2
      (try rw [hE])
      (try clear hE)
      go_roundw
      case rel=>exact⟨a+1,by go_num,by omega,hfin,hbf⟩
      case measure=>simp [intOf]; omega
   obtain⟨gb,rfl⟩:∃ gb,Av=some ⟨gb,0,none⟩:=by
    rcases hown.2 with ⟨h3,_⟩|⟨gb,cap,cur,hv,_⟩
    . injection h3 with _ h4 h5
      omega
    injection hv with hv
    exact⟨gb,hv⟩
   have hac2:(a:Int) < cv:=by omega
   have hac3:¬ (cv:Int)=a:=by omega
   go_wp2_with fail
   go_region_law (first
    | (refine qa6 (by rfl) (.tmp 30) (.tmp 33) 57 (by rfl) ww2.heap.size 195 i0 _ 2 16 Tryz.underlying57 hi0 hz0 hz1 hz2 (by rfl) (by decide) _ _ _ (by rfl) (qlk (by first | exact qa7 _ _ _ (by simp) | exact (Below.heap_alloc _ _ _ (by simp)).trans (qa7 _ _ _ (by simp))) (by first | omega | (simp; done) | (simp; omega))) _ _ _ a _ (qbe (out.take a)) (by rfl) (hT1.below (by repeat (first | exact Below.refl _ _ | assumption | (refine Below.drew ?_) | (refine Below.alloc ?_ (by first | omega | (simp; done) | (simp; omega)) _))) (Nat.le_refl _)).raw (flatD_one _) (by unfold maxLen; omega) (by omega) (by first | omega | (simp; done) | (simp; omega)) ?_; intro A1 d1 u1 hown1 hgr1 _; (try simp only [Nat.zero_add,List.nil_append] at hown1); have hb1:Below ww2.heap.size ww2 u1:=Below.grown (by repeat (first | exact Below.refl _ _ | assumption | (refine Below.drew ?_) | (refine Below.alloc ?_ (by first | omega | (simp; done) | (simp; omega)) _))) hgr1 (by first | omega | (simp; done) | (simp; omega)) (fun q hq=>by simp [Value.ownBlock] at hq; omega); have m1:=Below.keepCell hb1 (show b < ww2.heap.size by omega) l1; have m2:=Below.keepCell hb1 (show b < ww2.heap.size by omega) l2; have hs1:=hb1.size; (try have hX1:u1.heap[ww2.heap.size+1]? = some (.cells #[.int .i64 z1,.int .i64 z2] 195 (0,0)):=(hgr1.block _ (by simp) (by simp [Value.ownBlock])).trans (qa7 _ _ _ (by simp))); (try have hX0:u1.heap[ww2.heap.size]? = some (.cells #[.int .i64 z1,.int .i64 z2] 195 (0,0)):=(hgr1.block _ (by simp; try omega) (by simp [Value.ownBlock])).trans ((Below.heap_alloc _ _ _ (by simp)).trans (qa7 _ _ _ (by simp)))); clear hgr1)
    | (refine qa6 (by rfl) (.tmp 34) (.tmp 39) 57 (by rfl) ww2.heap.size 195 i0 _ 2 16 Tryz.underlying57 hi0 hz0 hz1 hz2 (by rfl) (by decide) _ _ _ (by rfl) (by first | exact hown1 | exact hown1.alloc _) _ _ _ 1 _ (qbe [(z1,z2)]) (by rfl) (qgk _ _ (z1,z2) 195 (by first | exact qa7 _ _ _ (by simp) | assumption)) (flatD_one _) (by unfold maxLen; omega) (by omega) (by first | omega | (simp; done) | (simp; omega)) ?_; intro A2 d2 u2 hown2 hgr2 _; have hb2:Below ww2.heap.size ww2 u2:=Below.grown (by repeat (first | exact Below.refl _ _ | assumption | (refine Below.drew ?_) | (refine Below.alloc ?_ (by first | omega | (simp; done) | (simp; omega)) _))) hgr2 (by first | omega | (simp; done) | (simp; omega)) (fun q hq=>(hown1.lt q hq).1); have hs2:=hb2.size; clear hgr2 hb1 m1 m2 hs1 hown1)
    | (refine qa6 (by rfl) (.tmp 40) (.tmp 43) 57 (by rfl) ww2.heap.size 195 i0 _ 2 16 Tryz.underlying57 hi0 hz0 hz1 hz2 (by rfl) (by decide) _ _ _ (by rfl) hown2 _ _ _ 0 _ (qbe (out.drop a)) (by rfl) ((hT2 _).below (by repeat (first | exact Below.refl _ _ | assumption | (refine Below.drew ?_) | (refine Below.alloc ?_ (by first | omega | (simp; done) | (simp; omega)) _))) (Nat.le_refl _)).raw (flatD_one _) (by unfold maxLen; omega) (by omega) (by first | omega | (simp; done) | (simp; omega)) ?_; intro A3 d3 u3 hown3 hgr3 _; have hb3:Below ww2.heap.size ww2 u3:=Below.grown (by repeat (first | exact Below.refl _ _ | assumption | (refine Below.drew ?_) | (refine Below.alloc ?_ (by first | omega | (simp; done) | (simp; omega)) _))) hgr3 (by first | omega | (simp; done) | (simp; omega)) (fun q hq=>(hown2.lt q hq).1); clear hgr3 hb2 hs2 hown2))
   all_goals
    have hfin:u3.ownsRow w.heap.size 195 2 (.slice A3 (a+1) d3) (a+1) (qbe (srt (xs.take (a+1)))):=by
     have h0:=qll hown3 (show w.heap.size<=ww2.heap.size by omega)
     have e:out.take a++(z1,z2)::out.drop a=out.take a++[(z1,z2)]++out.drop a:=by simp
     rw [HSN.out,HINS.out,e,qbn,qbn]
     have e2:a+1+0=a+1:=by omega
     rw [e2] at h0
     exact h0
    have hbf:Below w.heap.size w u3:=(hnx.trans (hg2.below.mono (by omega))).trans (hb3.mono (by omega))
    clear hown3 hb3
    (try have hE:a+1+0=a+1:=by omega)
    go_wp2
    (try rw [hE])
    (try clear hE)
    go_roundw
    case rel=>exact⟨a+1,by go_num,by omega,hfin,hbf⟩
    case measure=>simp [intOf]; omega
 obtain rfl:i=n:=by omega
 rw [List.take_of_length_le (by rw [HL.out]; exact Nat.le_refl _)] at hown
 have hD:=Descs.of_own hown (fun x hx=>hX.wf x (qod.1 hx)) (by omega)
 have HD:=Lib.hid hD
 clear hown hD
 go_wp2
 go_ret
 exact⟨Av,cv,rfl,hcv,hnx,HD.out⟩
end De
end Go.Proofs.YtmbppgjhdcmckaaGreatDoor
namespace Go.Proofs.YtmbppgjhdcmckaaGreatDoor
open Go.RowKit Go.Sort Go.Shelf
namespace De
def resO(xs:List (Int×Int)):List (Int×Int):=if qct xs=0 then srt xs else []
def qxa(xs:List (Int×Int)):List (Int×Int):=if qct xs=0 then qyl xs else []
def qme(w:World)(ys:List (Int×Int))(r:Int)(e:Ending)(w':World):Prop :=
 ∃ A' n' c' rb,e=.returned (.tuple #[.slice A' n' c',.int .i64 r])/\n'<=c'/\Below w.heap.size w w'/\(0 < n'->w.heap.size<=rb)/\rb < w'.heap.size/\Descs w' rb (rb+1) A' n' ys
theorem qe9(w:World)(lo hi:Nat)(A:Option Addr)(n c:Nat)(xs:List (Int×Int))(hX:Descs w lo hi A n xs)(hhi:hi<=w.heap.size)(h0:0 < w.heap.size)(r:Int)(hr:qct xs=r) :
  Calls Tryz.prog 204 #[.slice A n c] w (qme w (resO xs) r):=by
 by_cases hz:r=0
 . subst hz
   refine (qq8 w lo hi A n c xs hX hhi h0 hr).mono fun e w' ⟨A',c',rb,he,hc,hb,h1,h2,hD⟩=>⟨A',n,c',rb,he,hc,hb,fun h=>h1 h,h2,?_⟩
   rw [resO,if_pos hr]
   exact hD
 refine (qn0 w lo hi A n c xs hX hhi h0 r hr (by simpa using hz)).mono fun e w' ⟨he,hb⟩=>⟨none,0,0,0,he,Nat.le_refl _,hb,fun h=>absurd h (by omega),by have:=hb.size; omega,?_⟩
 rw [resO,if_neg (by rw [hr]; exact hz)]
 exact Descs.nil_ ..
theorem qy5(w:World)(lo hi:Nat)(A:Option Addr)(n c:Nat)(xs:List (Int×Int))(hX:Descs w lo hi A n xs)(hhi:hi<=w.heap.size)(h0:0 < w.heap.size)(r:Int)(hr:qct xs=r) :
  Calls Tryz.prog 194 #[.slice A n c] w (qme w (qxa xs) r):=by
 by_cases hz:r=0
 . subst hz
   refine (q04 w lo hi A n c xs hX hhi h0 hr).mono fun e w' ⟨A',n',c',rb,he,hc,hb,h1,h2,hD⟩=>⟨A',n',c',rb,he,hc,hb,h1,h2,?_⟩
   rw [qxa,if_pos hr]
   exact hD
 refine (qy4 w lo hi A n c xs hX hhi h0 r hr (by simpa using hz)).mono fun e w' ⟨he,hb⟩=>⟨none,0,0,0,he,Nat.le_refl _,hb,fun h=>absurd h (by omega),by have:=hb.size; omega,?_⟩
 rw [qxa,if_neg (by rw [hr]; exact hz)]
 exact Descs.nil_ ..
end De
end Go.Proofs.YtmbppgjhdcmckaaGreatDoor
namespace Go.Proofs.YtmbppgjhdcmckaaGreatDoor
namespace De
def qbm(own:Int)(l:List D):List D:=l.filter fun d=>d.1 != own
theorem qry{own:Int}{l:List D}{x:D}:x∈qbm own l↔x∈l/\x.1≠own:=by simp [qbm]
theorem qrz(own:Int)(l:List D):(qbm own l).length<=l.length:=List.length_filter_le _ _
def taken(own:Int)(cap:Nat)(l:List D):List D:=(qyl (qbm own l)).take cap
def qlo(own cap:Int):Bool:=decide (0<=own) && (decide (own < 8) && (decide (1<=cap) && decide (cap<=6)))
theorem qcd(own cap:Int):qlo own cap=true↔0<=own/\own < 8/\1<=cap/\cap<=6:=by simp [qlo]
def mayC(own cap:Int)(l:List D):Bool:=qlo own cap && (decide ((l.length:Int)<=cap) && (qct l==0 && qyl (qbm own l)==l))
structure MayC(own cap:Int)(l:List D):Prop where
 new:qlo own cap=true
 len:(l.length:Int)<=cap
 chk:qct l=0
 bst:qyl (qbm own l)=l
theorem qfl(own cap:Int)(l:List D):mayC own cap l=true↔MayC own cap l:=by
 simp only [mayC,Bool.and_eq_true,decide_eq_true_eq,beq_iff_eq]
 exact⟨fun ⟨a,b,c,d⟩=>⟨a,b,c,d⟩,fun ⟨a,b,c,d⟩=>⟨a,b,c,d⟩⟩
theorem qkz{own:Int}{l:List D}(h:qyl (qbm own l)=l):qbm own l=l:=by
 have h1:=qyk (qbm own l)
 rw [h] at h1
 exact (List.filter_sublist).eq_of_length (by have:=qrz own l; unfold qbm at *; omega)
def told(own now:Int)(l:List D):List D:=srt ((own,now)::l)
end De
end Go.Proofs.YtmbppgjhdcmckaaGreatDoor
namespace Go.Proofs.YtmbppgjhdcmckaaGreatDoor
open Go.RowKit Go.Sort Go.Shelf
namespace De
def qm6(own cap:Int):(Int×Int)×Int:=if qlo own cap=true then ((own,cap),0) else ((0,0),2)
theorem qpr(w:World)(own cap:Int)(x y r:Int)(hr:qm6 own cap=((x,y),r)) :
  Calls Tryz.prog 49 #[.int .i64 own,.int .i64 cap] w fun e w'=>e=.returned (.tuple #[.agg #[.int .i64 x,.int .i64 y,.slice none 0 0],.int .i64 r])/\Gr w w':=by
 have HR:=Lib.hid hr
 clear hr
 by_cases h1:0<=own
 . by_cases h2:own < 8
   . by_cases h3:1<=cap
     . by_cases h4:cap<=6
       . have e:((x,y),r)=((own,cap),(0:Int)):=by rw [<-HR.out,qm6,if_pos ((qcd own cap).2 ⟨h1,h2,h3,h4⟩)]
         obtain⟨e1,rfl⟩:=Prod.mk.inj e
         obtain⟨rfl,rfl⟩:=Prod.mk.inj e1
         clear e e1 HR
         go_enter Tryz.func49,Tryz.ntmps49
         go_wp2
         exact bodyPost_ret (v:=.tuple #[.agg #[.int .i64 x,.int .i64 y,.slice none 0 0],.int .i64 0]) (by simp [results,Tryz.results49,go_sem]) rfl ⟨rfl,Gr.alloc (Gr.refl _) _⟩
       have e:((x,y),r)=(((0:Int),(0:Int)),(2:Int)):=by rw [<-HR.out,qm6,if_neg (fun h=>by have:=(qcd own cap).1 h; omega)]
       obtain⟨e1,rfl⟩:=Prod.mk.inj e
       obtain⟨rfl,rfl⟩:=Prod.mk.inj e1
       clear e e1 HR
       go_enter Tryz.func49,Tryz.ntmps49
       go_wp2
       exact bodyPost_ret (v:=.tuple #[.agg #[.int .i64 0,.int .i64 0,.slice none 0 0],.int .i64 2]) (by simp [results,Tryz.results49,go_sem]) rfl ⟨rfl,Gr.alloc (Gr.refl _) _⟩
     have e:((x,y),r)=(((0:Int),(0:Int)),(2:Int)):=by rw [<-HR.out,qm6,if_neg (fun h=>by have:=(qcd own cap).1 h; omega)]
     obtain⟨e1,rfl⟩:=Prod.mk.inj e
     obtain⟨rfl,rfl⟩:=Prod.mk.inj e1
     clear e e1 HR
     go_enter Tryz.func49,Tryz.ntmps49
     go_wp2
     exact bodyPost_ret (v:=.tuple #[.agg #[.int .i64 0,.int .i64 0,.slice none 0 0],.int .i64 2]) (by simp [results,Tryz.results49,go_sem]) rfl ⟨rfl,Gr.alloc (Gr.refl _) _⟩
   have e:((x,y),r)=(((0:Int),(0:Int)),(2:Int)):=by rw [<-HR.out,qm6,if_neg (fun h=>by have:=(qcd own cap).1 h; omega)]
   obtain⟨e1,rfl⟩:=Prod.mk.inj e
   obtain⟨rfl,rfl⟩:=Prod.mk.inj e1
   clear e e1 HR
   go_enter Tryz.func49,Tryz.ntmps49
   go_wp2
   exact bodyPost_ret (v:=.tuple #[.agg #[.int .i64 0,.int .i64 0,.slice none 0 0],.int .i64 2]) (by simp [results,Tryz.results49,go_sem]) rfl ⟨rfl,Gr.alloc (Gr.refl _) _⟩
 have e:((x,y),r)=(((0:Int),(0:Int)),(2:Int)):=by rw [<-HR.out,qm6,if_neg (fun h=>by have:=(qcd own cap).1 h; omega)]
 obtain⟨e1,rfl⟩:=Prod.mk.inj e
 obtain⟨rfl,rfl⟩:=Prod.mk.inj e1
 clear e e1 HR
 go_enter Tryz.func49,Tryz.ntmps49
 go_wp2
 exact bodyPost_ret (v:=.tuple #[.agg #[.int .i64 0,.int .i64 0,.slice none 0 0],.int .i64 2]) (by simp [results,Tryz.results49,go_sem]) rfl ⟨rfl,Gr.alloc (Gr.refl _) _⟩
theorem qu1(w:World)(x y own:Int)(kb:Nat)(hk:w.cell? ⟨kb,0,none⟩=some (.int .i64 own))(hlt:kb < w.heap.size)(b:Bool)(hb:(x==own)=b) :
  Calls Tryz.prog 197 #[.agg #[.int .i64 x,.int .i64 y],.pointer (some ⟨kb,0,none⟩)] w fun e w'=>e=.returned (.bool b)/\Gr w w':=by
 have HB:=Lib.hid hb
 have hk2:(w.alloc (.cells #[.int .i64 x,.int .i64 y] 195)).cell? ⟨kb,0,none⟩=some (.int .i64 own):=(World.cell?_alloc_lt _ _ _ (show kb < w.heap.size from hlt)).trans hk
 clear hb
 go_enter Tryz.func197,Tryz.ntmps197
 go_wp2
 go_ret
 exact⟨by rw [<-HB.out]; rfl,Gr.alloc (Gr.refl _) _⟩
theorem qxl(base rb kb:Nat)(own:Int)(hne:kb≠rb):qj2 197 #[.pointer (some ⟨kb,0,none⟩)] base rb none (fun W (_:Unit)=>W.cell? ⟨kb,0,none⟩=some (.int .i64 own)/\kb < W.heap.size) (fun _=>True) (fun _ x=>x.1==own) (fun _ _=>()) where
 enters:=enters_of Tryz.func197 (by kernel_rfl) rfl
 row_ _ h:=by cases h
 lt _ _ _ h _:=by cases h
 call W s x _ _ hi _ _:=(qu1 W x.1 x.2 own kb hi.1 hi.2 _ rfl).mono fun e w' ⟨he,hg⟩=>⟨he,⟨Below.keepCell hg.below hi.2 hi.1,Nat.lt_of_lt_of_le hi.2 hg.below.size⟩,qcy hg.below (Nat.le_refl _) _⟩
 alloc W s o hi:=⟨(World.cell?_alloc_lt _ _ _ (show kb < W.heap.size from hi.2)).trans hi.1,by simp; omega⟩
 set_ W s q v hq hi:=⟨(World.cell?_setCell_other _ _ _ _ (fun e=>hne (by rw [<-hq,e]))).trans hi.1,by simpa [World.setCell] using hi.2⟩
theorem ql4(own:Int):∀ (l:List (Int×Int)),qjn (fun (_:Unit) x=>x.1==own) (fun _ _=>()) () l=qbm own l
 | []=>rfl
 | x::l=>by
  simp only [qjn,qbm]
  by_cases h:(x.1==own)=true
  . rw [if_pos h,ql4 own l,List.filter_cons_of_neg (by simpa using h)]
    rfl
  rw [if_neg h,ql4 own l,List.filter_cons_of_pos (by simpa using h)]
  rfl
def qk9(n:Nat->Nat):Nat->Nat
 | 0=>0
 | j+1=>qk9 n j+n j
def qs0(xs:Nat->List (Int×Int)):Nat->List (Int×Int)
 | 0=>[]
 | j+1=>qs0 xs j++xs j
theorem qoc(n:Nat->Nat):∀ (k j:Nat),j<=k->qk9 n j<=qk9 n k
 | 0,j,h=>by
  obtain rfl:j=0:=by omega
  exact Nat.le_refl _
 | k+1,j,h=>by
  by_cases e:j=k+1
  . rw [e]; exact Nat.le_refl _
  have:=qoc n k j (by omega)
  simp only [qk9]
  omega
theorem qy0(w:World)(n:Nat)(hn:n<=1000000) :
  Calls Tryz.prog 207 #[.slice none 0 0,.int .i64 n] w fun e w'=>∃ A' c',e=.returned (.slice A' 0 c')/\Below w.heap.size w w'/\w'.ownsRow w.heap.size 195 2 (.slice A' 0 c') 0 []:=by
 obtain⟨i0,hi0,hz0,hz1,hz2⟩:=info_parts Tryz.info195
 by_cases h0:n=0
 . subst h0
   go_enter Tryz.func207,Tryz.ntmps207
   go_wp2
   go_ret
   exact⟨none,0,rfl,Below.refl _ _,World.ownsRow_nil _ _ _ _⟩
 have h:=Any8.slices_Grow_grow (P:=Tryz.prog) (ρ:=Tryz.growD_ren) Tryz.growD i0 _ hi0 hz0 (by omega) none 0 0 n [] w (Nat.le_refl _) (by omega) (by rw [hz2]; omega) (by omega) (by simp) (fun _=>rfl) (fun a h=>by cases h)
 refine h.mono ?_
 rintro e w' ⟨rfl,rfl⟩
 have hge:=grownCap_ge w (0+n) 0 (Tryz.growD_ren.t 25)
 have hle:=grownCap_le_maxLen w (0+n) 0 (Tryz.growD_ren.t 25) (by unfold maxLen; omega)
 refine⟨_,_,rfl,((Below.refl _ w).drew).alloc (Nat.le_refl _) _,by simp,.inr ⟨w.heap.size,_,_,rfl,Nat.le_refl _,qa7 _ _ _ rfl,Nat.zero_le _,hle,?_,by simp⟩⟩
 rw [Nat.zero_add] at *
 simp [Builtin.zeroCells,Value.cells]
 omega
theorem qtj(w:World)(g k:Nat)(A:Nat->Option Addr)(n c:Nat->Nat)(xs:Nat->List (Int×Int))(hg:g < w.heap.size)(hL:∀ j,j < k->w.cell? ⟨g,j,none⟩=some (.slice (A j) (n j) (c j)))
  (hD:∀ j,j < k->Descs w 0 w.heap.size (A j) (n j) (xs j)) (hk:k<=1000) (hb:qk9 n k<=1000000) :
  Calls Tryz.prog 196 #[.slice (some ⟨g,0,none⟩) k k] w fun e w'=>∃ A' c',e=.returned (.slice A' (qk9 n k) c')/\qk9 n k<=c'/\Below w.heap.size w w'/\w'.ownsRow w.heap.size 195 2 (.slice A' (qk9 n k) c') (qk9 n k) (qbe (qs0 xs k)):=by
 obtain⟨i0,hi0,hz0,hz1,hz2⟩:=info_parts Tryz.info195
 have HL:=Lib.hid hL
 have HD:=Lib.hid hD
 clear hL hD
 go_enter Tryz.func196,Tryz.ntmps196
 go_wp2
 go_loopw [3,5,11] (fun sv _ iv wr=>∃ j s:Nat,iv=.int .i64 j/\j<=k/\sv=.int .i64 s/\Hid (qk9 n j=s)/\wr=w) (fun _ _ iv _=>k-(intOf iv).toNat)
 case atStart=>exact⟨0,0,rfl,Nat.zero_le _,rfl,rfl,rfl⟩
 obtain⟨j,s,rfl,hj,rfl,hs,rfl⟩:=hrel
 by_cases hlt:j < k
 . have g1:=HL.out j hlt
   have hle:=qoc n k (j+1) (by omega)
   have hs2:Hid (qk9 n (j+1)=s+n j):=by rw [Hid,qk9,hs.out]
   rw [hs2.out] at hle
   generalize hA:A j=Aj at g1
   generalize hn:n j=nj at g1 hs2 hle
   generalize hc:c j=cj at g1
   clear hA hn hc hs
   go_wp2
   go_roundw
   case rel=>exact⟨j+1,s+nj,by go_num,by omega,by go_num,hs2,by trivial⟩
   case measure=>simp [intOf]; omega
 obtain rfl:j=k:=by omega
 have hsk:s=qk9 n j:=hs.out.symm
 have hsb:s<=1000000:=by omega
 have HSK:=Lib.hid hsk
 clear hs hsk
 obtain⟨wo,rfl⟩:∃ wo:World,wo=wr:=⟨_,rfl⟩
 go_wp2_with fail
 refine (qy0 _ s hsb).mono ?_
 rintro e w1 ⟨A1,c1,rfl,hb1,hown1⟩
 go_wp2
 go_loopw [6,8,27] (fun v _ iv wr=>∃ i s:Nat,iv=.int .i64 i/\i<=j/\Hid (qk9 n i=s)/\wr.ownsRow wo.heap.size 195 2 v s (qbe (qs0 xs i))/\Below wo.heap.size wo wr) (fun _ _ iv _=>j-(intOf iv).toNat)
 case atStart=>exact⟨0,0,rfl,Nat.zero_le _,rfl,hown1,hb1⟩
 clear hown1 hb1
 obtain⟨i,s',rfl,hi,hs,hown,hnx⟩:=hrel
 obtain⟨Av,cv,rfl,hcv,_⟩:=qbb hown
 by_cases hil:i < j
 . have g1:wr.cell? ⟨g,i,none⟩=_:=Below.keepCell hnx hg (HL.out i hil)
   have hDi:=(HD.out i hil).below hnx (Nat.le_refl _)
   have hle:=qoc n j (i+1) (by omega)
   have hs2:Hid (qk9 n (i+1)=s'+n i):=by rw [Hid,qk9,hs.out]
   have hcat:Hid (qbe (qs0 xs (i+1))=qbe (qs0 xs i)++qbe (xs i)):=by rw [Hid,qs0,qbn]
   rw [hs2.out] at hle
   generalize A i=Ai at g1 hDi
   generalize n i=ni at g1 hs2 hle hDi
   generalize c i=ci at g1
   have hsz:=hnx.size
   go_wp2_with (first
    | (at_builtin; refine qag _ rfl (.tmp 31) (.tmp 32) 57 rfl wo.heap.size 195 i0 _ 2 16 Tryz.underlying57 hi0 hz0 hz1 hz2 rfl (by decide) _ _ _ rfl hown _ _ _ ni _ _ rfl hDi.raw (flatD_one _) ?c2 ?c3 ?c4 ?_))
   case c2=>unfold maxLen; omega
   case c3=>omega
   case c4=>omega
   intro A2 c2 w2 hown2 hgrow2 _
   have hb2:Below wo.heap.size wo w2:=hnx.grown hgrow2 (by omega) (fun q hq=>(hown.lt q hq).1)
   rw [<-hcat.out] at hown2
   clear hgrow2 hown hs g1 hDi
   go_wp2
   go_roundw
   case rel=>exact⟨i+1,s'+ni,by go_num,by omega,hs2,hown2,hb2⟩
   case measure=>simp [intOf]; omega
 obtain rfl:i=j:=by omega
 have e:=hs.out
 subst e
 clear hs HSK
 go_wp2
 go_ret
 exact⟨Av,cv,rfl,hcv,hnx,hown⟩
end De
end Go.Proofs.YtmbppgjhdcmckaaGreatDoor