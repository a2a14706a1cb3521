/- Numbers heard: walks (printed by a program of mine). -/
import Derived.Test.YtmbppgjhdcmckaaGreatDoorBj16
import Derived.Sort.Row
import Derived.Sort.Grow
import Derived.Shelf.SlSortCmp.QuietGrown
import Derived.Lib.SliceRun
set_option maxHeartbeats 102400000
set_option maxRecDepth 100000
namespace Go.Proofs.YtmbppgjhdcmckaaGreatDoor
open Go.RowKit
namespace No
open Pa (Sm)
theorem qb5(w:World)(a b:Nat):(w.drewN a).drewN b=w.drewN (a+b):=by simp [World.drewN,Nat.add_assoc]
theorem Sm_refl(a:List Int):Sm a a=true:=beq_self_eq_true _
theorem qk3{a b:List Int}(h:a.length≠b.length):Sm a b=false:=by
 unfold Sm
 rw [beq_eq_false_iff_ne]
 exact fun e=>h (by rw [e])
theorem qs7{a b:List Int}{k:Nat}(h:a[k]?.getD 0≠b[k]?.getD 0):Sm a b=false:=by
 unfold Sm
 rw [beq_eq_false_iff_ne]
 exact fun e=>h (by rw [e])
theorem qbh{a b:List Int}{k:Nat}(h1:k < a.length)(h2:k < b.length)(h:a.take k=b.take k)(he:a[k]?.getD 0=b[k]?.getD 0):a.take (k+1)=b.take (k+1):=by
 rw [List.take_succ_eq_append_getElem h1,List.take_succ_eq_append_getElem h2,h]
 rw [List.getElem?_eq_getElem h1,List.getElem?_eq_getElem h2] at he
 simp only [Option.getD_some] at he
 rw [he]
theorem q0e:(Tryz.prog.info? 3).map (fun i=>(i.zero,i.size,i.bytes))=some (some (.int .i64 0),1,8):=by kernel_rfl
theorem q0f(xs:List Int):∀ u∈xs.map (Value.int .i64),u.oneCell'=true:=fun u hu=>by
 obtain⟨x,_,rfl⟩:=List.mem_map.1 hu
 rfl
def hOk(xs:List Int):Nat->Bool
 | 0=>true
 | k+1=>hOk xs k && (Ma.heardN (xs[k]?.getD 0) && (decide (k=0) || decide (xs[k-1]?.getD 0 < xs[k]?.getD 0)))
def qc3(xs:List Int):Int:=if 4096 < xs.length then 4 else if hOk xs xs.length=true then 0 else 8
theorem qlw{xs:List Int}{k:Nat}(h:hOk xs k=false):∀ n,k<=n->hOk xs n=false
 | 0,hn=>by
  have:k=0:=by omega
  rw [this] at h
  exact h
 | n+1,hn=>by
  by_cases e:k=n+1
  . rw [<-e]; exact h
  unfold hOk
  rw [qlw h n (by omega)]
  rfl
def qgr(xs:List Int)(k:Nat):Int:=if k=0 then -1 else xs[k-1]?.getD 0
theorem qx2{xs:List Int}:∀ {k:Nat},hOk xs k=true->-1<=qgr xs k
 | 0,_=>by unfold qgr; rw [if_pos rfl]; omega
 | k+1,h=>by
  unfold hOk at h
  simp only [Bool.and_eq_true,Ma.heardN,decide_eq_true_eq] at h
  unfold qgr
  rw [if_neg (by omega),Nat.add_sub_cancel]
  omega
theorem qx1{xs:List Int}{k:Nat}(h:hOk xs k=true)(h1:qgr xs k < xs[k]?.getD 0)(h2:xs[k]?.getD 0<=1048575):hOk xs (k+1)=true:=by
 have hl:=qx2 h
 unfold hOk
 rw [h]
 unfold qgr at h1 hl
 simp only [Bool.true_and,Bool.and_eq_true,Ma.heardN,decide_eq_true_eq,Bool.or_eq_true]
 by_cases e:k=0
 . rw [if_pos e] at h1
   exact⟨by omega,.inl e⟩
 rw [if_neg e] at h1 hl
 exact⟨by omega,.inr h1⟩
theorem q0g{xs:List Int}{k:Nat}(h:xs[k]?.getD 0<=qgr xs k∨1048575 < xs[k]?.getD 0):hOk xs (k+1)=false:=by
 unfold hOk qgr at *
 cases e:hOk xs k
 . rfl
 simp only [Bool.true_and,Bool.and_eq_false_iff,Ma.heardN,decide_eq_false_iff_not,Bool.or_eq_false_iff]
 by_cases e0:k=0
 . rw [if_pos e0] at h
   exact .inl (by omega)
 rw [if_neg e0] at h
 rcases h with h|h
 . exact .inr ⟨e0,by omega⟩
 exact .inl (by omega)
theorem qu6{xs:List Int}{k:Nat}(hk:k < xs.length)(h:xs[k]?.getD 0<=qgr xs k∨1048575 < xs[k]?.getD 0)(hn:¬ 4096 < xs.length):qc3 xs=8:=by
 unfold qc3
 rw [if_neg hn,qlw (q0g h) xs.length (by omega)]
 rfl
theorem qti(w:World)(lo hi lo' hi':Nat)(A A':Option Addr)(n c n' c':Nat)(xs ys:List Int)(hX:qae w lo hi .i64 A n xs)(hY:qae w lo' hi' .i64 A' n' ys)(r:Bool)(hr:Sm xs ys=r) :
  Calls Tryz.prog 110 #[.slice A n c,.slice A' n' c'] w fun e w'=>e=.returned (.bool r)/\∃ m,w'=w.drewN m:=by
 have HR:=Lib.hid hr
 have HX:=Lib.hid hX.len
 have HY:=Lib.hid hY.len
 have hbx:=hX.big
 have hby:=hY.big
 clear hr
 by_cases hnn:n=n'
 . subst hnn
   go_enter Tryz.func110,Tryz.ntmps110
   go_wp2
   go_loopw [13] (fun iv wr=>∃ k:Nat,iv=.int .i64 k/\k<=n/\Hid (xs.take k=ys.take k)/\∃ m,wr=w.drewN m) (fun iv _=>n-(intOf iv).toNat)
   case atStart=>exact⟨0,rfl,Nat.zero_le _,rfl,0,rfl⟩
   obtain⟨k,rfl,hk,htk,m,rfl⟩:=hrel
   by_cases hlt:k < n
   . obtain⟨b,off,rfl,_,_,hc⟩:=hX.row (by omega)
     obtain⟨b',off',rfl,_,_,hc'⟩:=hY.row (by omega)
     have g1:=(hc k hlt).1
     have g2:=(hc' k hlt).1
     have hk0:(0:Int)<=k:=by omega
     have hkn:(k:Int) < n:=by omega
     have hnx:Hid (xs[k]?.getD 0=ys[k]?.getD 0->xs.take (k+1)=ys.take (k+1)):=fun he=>qbh (by rw [HX.out]; exact hlt) (by rw [HY.out]; exact hlt) htk.out he
     have hno:Hid (xs[k]?.getD 0≠ys[k]?.getD 0->Sm xs ys=false):=fun he=>qs7 he
     clear hc hc'
     generalize xs[k]?.getD 0=x at g1 hnx hno
     generalize ys[k]?.getD 0=y at g2 hnx hno
     by_cases he:x=y
     . subst he
       have hn2:=Lib.hid (hnx.out rfl)
       have hne:(x != x)=false:=by simp
       go_wp2
       go_quiet (fail)
       go_wp2
       go_roundw
       case rel=>exact⟨k+1,by go_num,by omega,hn2,_,rfl⟩
       case measure=>simp [intOf]; omega
     have e2:r=false:=by rw [<-HR.out]; exact hno.out he
     subst e2
     have hne:(x != y)=true:=by simpa using he
     go_wp2
     go_quiet (fail)
     go_wp2
     go_ret
     exact⟨rfl,_,qb5 ..⟩
   obtain rfl:k=n:=by omega
   have e2:r=true:=by
    rw [<-HR.out]
    have:=htk.out
    rw [List.take_of_length_le (by rw [HX.out]; exact Nat.le_refl _),List.take_of_length_le (by rw [HY.out]; exact Nat.le_refl _)] at this
    rw [this]
    exact Sm_refl _
   subst e2
   go_wp2
   go_ret
   exact⟨rfl,m,rfl⟩
 have e2:r=false:=by rw [<-HR.out]; exact qk3 (by rw [HX.out,HY.out]; exact hnn)
 subst e2
 have hne:((n:Int) != n')=true:=by simpa using (show ¬ (n:Int)=n' by omega)
 have hne2:(n != n')=true:=by simpa using hnn
 go_enter Tryz.func110,Tryz.ntmps110
 go_wp2
 go_ret
 exact⟨rfl,0,rfl⟩
theorem qtc(w:World)(lo hi lo' hi':Nat)(A A':Option Addr)(n c n' c':Nat)(xs ys:List Int)(hX:qae w lo hi .i64 A n xs)(hY:qae w lo' hi' .i64 A' n' ys)(r:Bool)(hr:Sm xs ys=r) :
  Calls Tryz.prog 57 #[.slice A n c,.slice A' n' c'] w fun e w'=>e=.returned (.bool r)/\∃ m,w'=w.drewN m:=by
 have HR:=Lib.hid hr
 have HX:=Lib.hid hX.len
 have HY:=Lib.hid hY.len
 have hbx:=hX.big
 have hby:=hY.big
 clear hr
 by_cases hnn:n=n'
 . subst hnn
   go_enter Tryz.func57,Tryz.ntmps57
   go_wp2
   go_loopw [5] (fun iv wr=>∃ k:Nat,iv=.int .i64 k/\k<=n/\Hid (xs.take k=ys.take k)/\∃ m,wr=w.drewN m) (fun iv _=>n-(intOf iv).toNat)
   case atStart=>exact⟨0,rfl,Nat.zero_le _,rfl,0,rfl⟩
   obtain⟨k,rfl,hk,htk,m,rfl⟩:=hrel
   by_cases hlt:k < n
   . obtain⟨b,off,rfl,_,_,hc⟩:=hX.row (by omega)
     obtain⟨b',off',rfl,_,_,hc'⟩:=hY.row (by omega)
     have g1:=(hc k hlt).1
     have g2:=(hc' k hlt).1
     have hk0:(0:Int)<=k:=by omega
     have hkn:(k:Int) < n:=by omega
     have hnx:Hid (xs[k]?.getD 0=ys[k]?.getD 0->xs.take (k+1)=ys.take (k+1)):=fun he=>qbh (by rw [HX.out]; exact hlt) (by rw [HY.out]; exact hlt) htk.out he
     have hno:Hid (xs[k]?.getD 0≠ys[k]?.getD 0->Sm xs ys=false):=fun he=>qs7 he
     clear hc hc'
     generalize xs[k]?.getD 0=x at g1 hnx hno
     generalize ys[k]?.getD 0=y at g2 hnx hno
     by_cases he:x=y
     . subst he
       have hn2:=Lib.hid (hnx.out rfl)
       have hne:(x != x)=false:=by simp
       go_wp2
       go_quiet (fail)
       go_wp2
       go_roundw
       case rel=>exact⟨k+1,by go_num,by omega,hn2,_,rfl⟩
       case measure=>simp [intOf]; omega
     have e2:r=false:=by rw [<-HR.out]; exact hno.out he
     subst e2
     have hne:(x != y)=true:=by simpa using he
     go_wp2
     go_quiet (fail)
     go_wp2
     go_ret
     exact⟨rfl,_,qb5 ..⟩
   obtain rfl:k=n:=by omega
   have e2:r=true:=by
    rw [<-HR.out]
    have:=htk.out
    rw [List.take_of_length_le (by rw [HX.out]; exact Nat.le_refl _),List.take_of_length_le (by rw [HY.out]; exact Nat.le_refl _)] at this
    rw [this]
    exact Sm_refl _
   subst e2
   go_wp2
   go_ret
   exact⟨rfl,m,rfl⟩
 have e2:r=false:=by rw [<-HR.out]; exact qk3 (by rw [HX.out,HY.out]; exact hnn)
 subst e2
 have hne:((n:Int) != n')=true:=by simpa using (show ¬ (n:Int)=n' by omega)
 have hne2:(n != n')=true:=by simpa using hnn
 go_enter Tryz.func57,Tryz.ntmps57
 go_wp2
 go_ret
 exact⟨rfl,0,rfl⟩
theorem qpj(w:World)(lo hi:Nat)(A:Option Addr)(n c:Nat)(xs:List Int)(hX:qae w lo hi .i64 A n xs)(code:Int)(hcode:qc3 xs=code) :
  Calls Tryz.prog 121 #[.slice A n c] w fun e w'=>e=.returned (.int .i64 code)/\∃ m,w'=w.drewN m:=by
 have HL:=Lib.hid hX.len
 have hbig:=hX.big
 have HC:=Lib.hid hcode
 clear hcode
 by_cases h8:(4096:Int) < n
 . have e4:code=4:=by rw [<-HC.out]; unfold qc3; rw [if_pos (by have:=HL.out; omega)]
   subst e4
   go_enter Tryz.func121,Tryz.ntmps121
   go_wp2
   go_ret
   exact⟨rfl,0,rfl⟩
 have H8:Hid (¬ 4096 < xs.length):=Lib.hid (by have:=HL.out; omega)
 go_enter Tryz.func121,Tryz.ntmps121
 go_wp2
 go_loopw [3,11] (fun lv iv wr=>∃ k:Nat,lv=.int .i64 (qgr xs k)/\iv=.int .i64 k/\k<=n/\Hid (hOk xs k=true)/\∃ m,wr=w.drewN m) (fun _ iv _=>n-(intOf iv).toNat)
 case atStart=>exact⟨0,rfl,rfl,Nat.zero_le _,rfl,0,rfl⟩
 obtain⟨k,rfl,rfl,hk,hok,m,rfl⟩:=hrel
 by_cases hlt:k < n
 . obtain⟨b,off,rfl,_,_,hc⟩:=hX.row (by omega)
   have g1:=(hc k hlt).1
   have hk0:(0:Int)<=k:=by omega
   have hkn:(k:Int) < n:=by omega
   have hnx:Hid (qgr xs k < xs[k]?.getD 0->xs[k]?.getD 0<=1048575->hOk xs (k+1)=true):=fun h1 h2=>qx1 hok.out h1 h2
   have hno:Hid (xs[k]?.getD 0<=qgr xs k∨1048575 < xs[k]?.getD 0->code=8):=fun h=>HC.out.symm.trans (qu6 (by have:=HL.out; omega) h H8.out)
   have hl1:Hid (qgr xs (k+1)=xs[k]?.getD 0):=Lib.hid (by unfold qgr; rw [if_neg (by omega),Nat.add_sub_cancel])
   clear hc
   generalize xs[k]?.getD 0=x at g1 hnx hno hl1
   generalize qgr xs k=z at hnx hno
   by_cases q1:x<=z
   . obtain rfl:code=8:=hno.out (.inl q1)
     go_wp2
     go_ret
     exact⟨rfl,m,rfl⟩
   by_cases q2:1048575 < x
   . obtain rfl:code=8:=hno.out (.inr q2)
     go_wp2
     go_ret
     exact⟨rfl,m,rfl⟩
   have hn2:=Lib.hid (hnx.out (by omega) (by omega))
   go_wp2
   go_roundw
   case rel=>exact⟨k+1,by rw [hl1.out],by go_num,by omega,hn2,m,rfl⟩
   case measure=>first | (simp [intOf]; done) | (simp [intOf]; omega)
 obtain rfl:k=n:=by omega
 have e2:code=0:=by
  rw [<-HC.out]
  unfold qc3
  rw [if_neg H8.out,HL.out,hok.out]
  rfl
 subst e2
 go_wp2
 go_ret
 exact⟨rfl,m,rfl⟩
theorem qfh(w:World)(x:Int)(k:Bool)(hk:Ma.heardN x=k):Calls Tryz.prog 155 #[.int .i64 x] w fun e' w'=>e'=.returned (.bool k)/\w'=w:=by
 have HK:=Lib.hid hk
 clear hk
 go_enter Tryz.func155,Tryz.ntmps155
 by_cases q0:0<=x
 . by_cases q1:x<=1048575
   . obtain rfl:k=true:=by rw [<-HK.out]; exact decide_eq_true (by omega)
     go_wp2
     go_ret
     exact⟨rfl,rfl⟩
   obtain rfl:k=false:=by rw [<-HK.out]; exact decide_eq_false (by omega)
   go_wp2
   go_ret
   exact⟨rfl,rfl⟩
 obtain rfl:k=false:=by rw [<-HK.out]; exact decide_eq_false (by omega)
 go_wp2
 go_ret
 exact⟨rfl,rfl⟩
theorem qx0(xs:List Int)(k:Nat):hOk xs (k+1)=(hOk xs k && (Ma.heardN (xs[k]?.getD 0) && (decide (k=0) || decide (xs[k-1]?.getD 0 < xs[k]?.getD 0)))):=rfl
theorem qk4(w:World)(lo hi:Nat)(A:Option Addr)(n c:Nat)(xs:List Int)(hX:qae w lo hi .i64 A n xs)(code:Int)(hcode:qc3 xs=code) :
  Calls Tryz.prog 103 #[.slice A n c] w fun e w'=>e=.returned (.int .i64 code)/\∃ m,w'=w.drewN m:=by
 have HL:=Lib.hid hX.len
 have hbig:=hX.big
 have HC:=Lib.hid hcode
 clear hcode
 by_cases h8:(4096:Int) < n
 . have e4:code=4:=by rw [<-HC.out]; unfold qc3; rw [if_pos (by have:=HL.out; omega)]
   subst e4
   go_enter Tryz.func103,Tryz.ntmps103
   go_wp2
   go_ret
   exact⟨rfl,0,rfl⟩
 have H8:Hid (¬ 4096 < xs.length):=Lib.hid (by have:=HL.out; omega)
 go_enter Tryz.func103,Tryz.ntmps103
 go_wp2
 go_loopw [3] (fun iv wr=>∃ k:Nat,iv=.int .i64 k/\k<=n/\Hid (hOk xs k=true)/\∃ m,wr=w.drewN m) (fun iv _=>n-(intOf iv).toNat)
 case atStart=>exact⟨0,rfl,Nat.zero_le _,rfl,0,rfl⟩
 obtain⟨k,rfl,hk,hok,m,rfl⟩:=hrel
 by_cases hlt:k < n
 . obtain⟨b,off,rfl,_,_,hc⟩:=hX.row (by omega)
   have g1:=(hc k hlt).1
   have hk0:(0:Int)<=k:=by omega
   have hkn:(k:Int) < n:=by omega
   have hsu:=qx0 xs k
   rw [hok.out,Bool.true_and] at hsu
   have hno:Hid (hOk xs (k+1)=false->code=8):=fun h=>by
    rw [<-HC.out]
    unfold qc3
    rw [if_neg H8.out,qlw h xs.length (by have:=HL.out; omega)]
    rfl
   have HO:=Lib.hid hsu
   clear hsu
   obtain⟨t,ht⟩:∃ t,Ma.heardN (xs[k]?.getD 0)=t:=⟨_,rfl⟩
   have HT:=Lib.hid ht
   clear ht
   cases t
   . obtain rfl:code=8:=hno.out (by rw [HO.out,HT.out]; rfl)
     clear hc hno HO
     generalize xs[k]?.getD 0=x at *
     go_wp2
     go_quiet (first | (go_at_call 155; refine (qfh _ x false HT.out).mono ?_; rintro e_ w_ ⟨rfl,rfl⟩; exact⟨rfl,_,rfl⟩))
     go_wp2
     go_ret
     exact⟨rfl,_,qb5 ..⟩
   by_cases hkp:0 < k
   . have h0:Hid (¬ k=0):=Lib.hid (by omega)
     have g2:=(hc (k-1) (by omega)).1
     have hks:IntKind.i64.wrap ((k:Int)-1)=((k-1:Nat):Int):=by rw [IntKind.wrap_i64]; omega
     have hkq:(((k-1:Nat):Int)) < n:=by omega
     have hkr:(0:Int)<=((k-1:Nat):Int):=by omega
     have hdec:Hid (hOk xs (k+1)=decide (xs[k-1]?.getD 0 < xs[k]?.getD 0)):=Lib.hid (by rw [HO.out,HT.out,decide_eq_false h0.out]; simp)
     clear hc HO
     generalize xs[k]?.getD 0=x at *
     generalize hkk:k-1=kp at *
     generalize xs[kp]?.getD 0=y at *
     by_cases q1:x<=y
     . obtain rfl:code=8:=hno.out (by rw [hdec.out]; exact decide_eq_false (by omega))
       go_wp2
       go_quiet (first | (go_at_call 155; refine (qfh _ x true HT.out).mono ?_; rintro e_ w_ ⟨rfl,rfl⟩; exact⟨rfl,_,rfl⟩))
       go_wp2
       go_ret
       exact⟨rfl,_,qb5 ..⟩
     have hn2:Hid (hOk xs (k+1)=true):=Lib.hid (by rw [hdec.out]; exact decide_eq_true (by omega))
     go_wp2
     go_quiet (first | (go_at_call 155; refine (qfh _ x true HT.out).mono ?_; rintro e_ w_ ⟨rfl,rfl⟩; exact⟨rfl,_,rfl⟩))
     go_wp2
     go_roundw
     case rel=>exact⟨k+1,by go_num,by omega,hn2,_,rfl⟩
     case measure=>first | (simp [intOf]; done) | (simp [intOf]; omega)
   have hn2:Hid (hOk xs (k+1)=true):=Lib.hid (by rw [HO.out,HT.out,decide_eq_true (show k=0 by omega)]; rfl)
   clear hc hno HO
   generalize xs[k]?.getD 0=x at *
   go_wp2
   go_quiet (first | (go_at_call 155; refine (qfh _ x true HT.out).mono ?_; rintro e_ w_ ⟨rfl,rfl⟩; exact⟨rfl,_,rfl⟩))
   go_wp2
   go_roundw
   case rel=>exact⟨k+1,by go_num,by omega,hn2,_,rfl⟩
   case measure=>first | (simp [intOf]; done) | (simp [intOf]; omega)
 obtain rfl:k=n:=by omega
 have e2:code=0:=by
  rw [<-HC.out]
  unfold qc3
  rw [if_neg H8.out,HL.out,hok.out]
  rfl
 subst e2
 go_wp2
 go_ret
 exact⟨rfl,m,rfl⟩
end No
end Go.Proofs.YtmbppgjhdcmckaaGreatDoor
namespace Go.Proofs.YtmbppgjhdcmckaaGreatDoor
namespace De
abbrev D:=Int×Int
def may(d:D):Bool:=decide (0<=d.1) && (decide (d.1 < 8) && (decide (0<=d.2) && decide (d.2<=2147483647)))
theorem qdm(d:D):may d=true↔0<=d.1/\d.1 < 8/\0<=d.2/\d.2<=2147483647:=by simp [may]
def ltB(a b:D):Bool:=decide (b.2 < a.2∨(a.2=b.2/\a.1 < b.1))
theorem qfv(a b:D):ltB a b=true↔b.2 < a.2∨(a.2=b.2/\a.1 < b.1):=by simp [ltB]
theorem q1q(a:D):ltB a a=false:=by rw [Bool.eq_false_iff,Ne,qfv]; omega
theorem lt_trans{a b c:D}(h:ltB a b=true)(k:ltB b c=true):ltB a c=true:=by rw [qfv] at *; omega
theorem qqn{a b:D}(h:ltB a b=true):ltB b a=false:=by rw [Bool.eq_false_iff,Ne]; rw [qfv] at *; omega
theorem q1p{a b:D}(h:ltB a b=false)(k:ltB b a=false):a=b:=by
 rw [Bool.eq_false_iff,Ne,qfv] at h k
 exact Prod.ext (by omega) (by omega)
theorem qnb{a b c:D}(h:ltB a b=false)(k:ltB b c=false):ltB a c=false:=by
 rw [Bool.eq_false_iff,Ne,qfv] at *; omega
def qct(l:List D):Int:=if 64 < l.length then 4 else if l.all may then 0 else 8
def Srt(l:List D):Prop:=l.Pairwise fun a b=>ltB b a=false
theorem qw0{l m:List D}(hp:l.Perm m)(h1:Srt l)(h2:Srt m):l=m :=
 hp.eq_of_pairwise (le:=fun a b=>ltB b a=false) (fun _ _ _ _ h k=>q1p k h) h1 h2
def ins(d:D):List D->List D
 | []=>[d]
 | x::l=>if ltB d x then d::x::l else x::ins d l
def srt(l:List D):List D:=l.foldl (fun out d=>ins d out) []
theorem qlu(d:D):∀ l,(ins d l).Perm (d::l)
 | []=>.refl _
 | x::l=>by
  simp only [ins]
  split
  . exact .refl _
  exact ((qlu d l).cons x).trans (.swap ..)
theorem qu4(d:D):∀ {l},Srt l->Srt (ins d l)
 | [],_=>by simp [ins,Srt]
 | x::l,h=>by
  simp only [ins]
  obtain⟨h1,h2⟩:=List.pairwise_cons.1 h
  split
  . rename_i hd
    refine List.pairwise_cons.2 ⟨fun y hy=>?_,h⟩
    rcases List.mem_cons.1 hy with rfl|hy
    . exact qqn hd
    exact qnb (h1 y hy) (qqn hd)
  rename_i hd
  refine List.pairwise_cons.2 ⟨fun y hy=>?_,qu4 d h2⟩
  rcases List.mem_cons.1 ((qlu d l).mem_iff.1 hy) with rfl|hy
  . simpa using hd
  exact h1 y hy
theorem qtp(l:List D):∀ out:List D,(l.foldl (fun out d=>ins d out) out).Perm (l++out):=by
 induction l with
 | nil=>exact fun out=>.refl _
 | cons d l ih=>exact fun out=>((ih (ins d out)).trans ((qlu d out).append_left l)).trans (List.perm_middle)
theorem qw2(l:List D):∀ out:List D,Srt out->Srt (l.foldl (fun out d=>ins d out) out):=by
 induction l with
 | nil=>exact fun out h=>h
 | cons d l ih=>exact fun out h=>ih _ (qu4 d h)
theorem qla(l:List D):(srt l).Perm l:=by
 have:=qtp l []
 rwa [List.append_nil] at this
theorem qzr(l:List D):Srt (srt l):=qw2 l [] List.Pairwise.nil
theorem q1g{l m:List D}(hp:m.Perm l)(hs:Srt m):m=srt l:=qw0 (hp.trans (qla l).symm) hs (qzr l)
theorem qzs(l:List D):(srt l).length=l.length:=(qla l).length_eq
theorem qod{l:List D}{d:D}:d∈srt l↔d∈l:=(qla l).mem_iff
def qdw(seen:List Int):List D->List D
 | []=>[]
 | d::l=>if d.1∈seen then qdw seen l else d::qdw (d.1::seen) l
def qyl(l:List D):List D:=qdw [] (srt l)
theorem qfo:∀ (l:List D) (seen:List Int),(qdw seen l).Sublist l
 | [],_=>.slnil
 | d::l,seen=>by
  simp only [qdw]
  split
  . exact (qfo l seen).cons d
  exact (qfo l _).cons_cons d
theorem qyk(l:List D):(qyl l).length<=l.length:=by
 have:=(qfo (srt l) []).length_le
 rw [qzs] at this
 exact this
end De
end Go.Proofs.YtmbppgjhdcmckaaGreatDoor
namespace Go.Proofs.YtmbppgjhdcmckaaGreatDoor
open Go.RowKit
namespace De
def qx9(x:Int×Int):List Value:=[.int .i64 x.1,.int .i64 x.2]
def qbe:List (Int×Int)->List Value
 | []=>[]
 | x::l=>.int .i64 x.1::.int .i64 x.2::qbe l
theorem qjh:∀ l,(qbe l).length=l.length*2
 | []=>rfl
 | x::l=>by simp [qbe,qjh l]; omega
theorem qbn:∀ l m,qbe (l++m)=qbe l++qbe m
 | [],_=>rfl
 | x::l,m=>by simp [qbe,qbn l m]
theorem flatD_one:∀ l,∀ u∈qbe l,u.oneCell'=true
 | [],u,h=>by simp [qbe] at h
 | x::l,u,h=>by
  simp only [qbe,List.mem_cons] at h
  rcases h with rfl|rfl|h
  . rfl
  . rfl
  exact flatD_one l u h
theorem qji:∀ (l:List (Int×Int)) (j:Nat),j < l.length->(qbe l)[j*2]? = some (.int .i64 (l[j]?.getD (0,0)).1)/\(qbe l)[j*2+1]? = some (.int .i64 (l[j]?.getD (0,0)).2)
 | [],j,h=>by simp at h
 | x::l,0,_=>by simp [qbe]
 | x::l,j+1,h=>by
  have ih:=qji l j (by simpa using h)
  have e:(j+1)*2=j*2+1+1:=by omega
  rw [e]
  simp only [qbe,List.getElem?_cons_succ]
  exact ih
def Rng(x:Int×Int):Prop:=(-9223372036854775808<=x.1/\x.1<=9223372036854775807)/\(-9223372036854775808<=x.2/\x.2<=9223372036854775807)
structure Descs(w:World)(lo hi:Nat)(A:Option Addr)(n:Nat)(xs:List (Int×Int)):Prop where
 len:xs.length=n
 wf:∀ x∈xs,Rng x
 big:n<=9223372036854775807
 row:0 < n->∃ b off,A=some ⟨b,off,none⟩/\lo<=b/\b < hi/\∀ j,j < n->(w.cell? ⟨b,off+j*2,none⟩=some (.int .i64 (xs[j]?.getD (0,0)).1)/\w.frozen? ⟨b,off+j*2,none⟩=false) /\
  (w.cell? ⟨b,off+j*2+1,none⟩=some (.int .i64 (xs[j]?.getD (0,0)).2)/\w.frozen? ⟨b,off+j*2+1,none⟩=false)
section
variable {w w':World} {lo hi lo' hi':Nat} {A:Option Addr} {n:Nat} {xs:List (Int×Int)}
theorem Descs.nil_(w:World)(lo hi:Nat)(A:Option Addr):Descs w lo hi A 0 [] :=
 ⟨rfl,by simp,by omega,fun h=>absurd h (by omega)⟩
theorem Descs.zero(h:Descs w lo hi A n xs)(h0:n=0):xs=[]:=List.eq_nil_of_length_eq_zero (by rw [h.len,h0])
theorem Descs.keep(h:Descs w lo hi A n xs)(hk:∀ p:Addr,p.block < hi->lo<=p.block->w'.cell? p=w.cell? p/\w'.frozen? p=w.frozen? p):Descs w' lo hi A n xs :=
 ⟨h.len,h.wf,h.big,fun hn=>by
  obtain⟨b,off,e,h1,h2,hc⟩:=h.row hn
  refine⟨b,off,e,h1,h2,fun j hj=>?_⟩
  obtain⟨⟨a1,a2⟩,a3,a4⟩:=hc j hj
  exact⟨⟨(hk _ h2 h1).1.trans a1,(hk _ h2 h1).2.trans a2⟩,(hk _ h2 h1).1.trans a3,(hk _ h2 h1).2.trans a4⟩⟩
theorem Descs.more(h:Descs w lo hi A n xs)(hl:lo'<=lo)(hh:hi<=hi'):Descs w lo' hi' A n xs :=
 ⟨h.len,h.wf,h.big,fun hn=>by
  obtain⟨b,off,e,h1,h2,hc⟩:=h.row hn
  exact⟨b,off,e,by omega,by omega,hc⟩⟩
theorem Descs.below{B:Nat}(h:Descs w lo hi A n xs)(hb:Below B w w')(hB:hi<=B):Descs w' lo hi A n xs :=
 h.keep fun p hp _=>⟨hb.cell (by omega),hb.frozen (by omega)⟩
theorem Descs.drewN(h:Descs w lo hi A n xs)(m:Nat):Descs (w.drewN m) lo hi A n xs:=⟨h.len,h.wf,h.big,h.row⟩
theorem Descs.alloc(h:Descs w lo hi A n xs)(hB:hi<=w.heap.size)(o:Obj):Descs (w.alloc o) lo hi A n xs :=
 h.below ((Below.refl w.heap.size w).alloc (Nat.le_refl _) o) hB
theorem Descs.far(h:Descs w lo hi A n xs){p:Addr}(hp:p.block < lo∨hi<=p.block)(u:Value):Descs (w.setCell p u) lo hi A n xs :=
 h.keep fun q hq hl=>⟨World.cell?_setCell_other w p q u (fun e=>by subst e; omega),by rw [World.frozen?_setCell]⟩
theorem Descs.take_(h:Descs w lo hi A n xs){m:Nat}(hm:m<=n):Descs w lo hi A m (xs.take m):=by
 have hl:=h.len
 refine⟨by simp; omega,fun x hx=>h.wf x (List.mem_of_mem_take hx),by have:=h.big; omega,fun h0=>?_⟩
 obtain⟨b,off,e,h1,h2,hc⟩:=h.row (by omega)
 refine⟨b,off,e,h1,h2,fun j hj=>?_⟩
 rw [List.getElem?_take,if_pos hj]
 exact hc j (by omega)
theorem Descs.drop_{a:Addr}(h:Descs w lo hi (some a) n xs){k:Nat}(hk:k<=n):Descs w lo hi (some (a.add (k*2))) (n-k) (xs.drop k):=by
 have hl:=h.len
 refine⟨by simp; omega,fun x hx=>h.wf x (List.mem_of_mem_drop hx),by have:=h.big; omega,fun h0=>?_⟩
 obtain⟨b,off,e,h1,h2,hc⟩:=h.row (by omega)
 injection e with e
 subst e
 have hadd:(⟨b,off,none⟩:Addr).add (k*2)=⟨b,off+k*2,none⟩:=by unfold Addr.add; split<;>simp_all
 refine⟨b,off+k*2,by rw [hadd],h1,h2,fun j hj=>?_⟩
 rw [List.getElem?_drop]
 have:=hc (k+j) (by omega)
 have e1:off+(k+j)*2=off+k*2+j*2:=by omega
 rwa [e1] at this
theorem Descs.at_(h:Descs w lo hi A n xs)(j:Nat):Rng (xs[j]?.getD (0,0)):=by
 by_cases hj:j < xs.length
 . exact h.wf _ (by simp [hj])
 simp [hj,Rng]
theorem Descs.raw(h:Descs w lo hi A n xs):Raw w lo hi A (n*2) (qbe xs):=by
 have hl:=h.len
 refine⟨by rw [qjh,hl],fun hn=>?_⟩
 obtain⟨b,off,e,h1,h2,hc⟩:=h.row (by omega)
 refine⟨b,off,e,h1,h2,fun j hj=>?_⟩
 obtain⟨⟨a1,a2⟩,a3,a4⟩:=hc (j/2) (by omega)
 obtain⟨g1,g2⟩:=qji xs (j/2) (by omega)
 rcases Nat.mod_two_eq_zero_or_one j with he|he
 . have ej:j=j/2*2:=by omega
   rw [ej]
   exact⟨a1.trans g1.symm,a2⟩
 have ej:j=j/2*2+1:=by omega
 rw [ej]
 exact⟨a3.trans g2.symm,a4⟩
theorem Descs.of_own{base:Nat}{e:TypeId}{c:Nat}(h:w.ownsRow base e 2 (.slice A n c) n (qbe xs))(hw:∀ x∈xs,Rng x)(hn:n<=9223372036854775807):Descs w base w.heap.size A n xs:=by
 have hl:xs.length=n:=by have:=h.1; rw [qjh] at this; omega
 refine⟨hl,hw,hn,fun h0=>?_⟩
 obtain⟨_,h2⟩:=h
 rcases h2 with ⟨_,h3⟩|⟨g,cap,cur,hv,hg,hh,hnc,hcm,hcs,ht⟩
 . omega
 injection hv with ha
 refine⟨g,0,ha,hg,(Array.getElem?_eq_some_iff.1 hh).1,fun j hj=>?_⟩
 obtain⟨g1,g2⟩:=qji xs j (by omega)
 rw [<-ht,List.getElem?_take,if_pos (by omega)] at g1 g2
 refine⟨⟨?_,by simp [World.frozen?,hh]⟩,?_,by simp [World.frozen?,hh]⟩
 . rw [cell_of_row w g _ cur e (0,0) hh,Nat.zero_add]
   simpa using g1
 rw [cell_of_row w g _ cur e (0,0) hh,Nat.zero_add]
 simpa using g2
end
theorem qxf(w:World)(x:Int×Int)(t:TypeId):Raw (w.alloc (.cells #[.int .i64 x.1,.int .i64 x.2] t)) w.heap.size (w.heap.size+1) (some ⟨w.heap.size,0,none⟩) (1*2) (qbe [x]):=by
 refine⟨rfl,fun _=>⟨w.heap.size,0,rfl,Nat.le_refl _,by omega,fun j hj=>?_⟩⟩
 obtain rfl|rfl:j=0∨j=1:=by omega
 . simp [go_sem,qbe]
 simp [go_sem,qbe]
end De
end Go.Proofs.YtmbppgjhdcmckaaGreatDoor
namespace Go.Proofs.YtmbppgjhdcmckaaGreatDoor
open Go.RowKit Go.Sort
namespace De
def Gr(w w':World):Prop:=∃ q os,w'=grow (w.drewN q) os
theorem Gr.refl(w:World):Gr w w:=⟨0,#[],by rw [grow_empty]; rfl⟩
theorem Gr.trans{a b c:World}(h:Gr a b)(k:Gr b c):Gr a c:=by
 obtain⟨q,os,rfl⟩:=h
 obtain⟨q',os',rfl⟩:=k
 exact⟨q+q',os++os',by show grow (grow ((a.drewN q).drewN q') os) os'=_; rw [grow_grow,World.drewN_drewN]⟩
theorem Gr.alloc{a b:World}(h:Gr a b)(o:Obj):Gr a (b.alloc o):=h.trans ⟨0,#[o],by rw [alloc_eq_grow]; rfl⟩
theorem Gr.drewN{a b:World}(h:Gr a b)(n:Nat):Gr a (b.drewN n):=h.trans ⟨n,#[],by rw [grow_empty]⟩
theorem Gr.below{a b:World}(h:Gr a b):Below a.heap.size a b:=by
 obtain⟨q,os,rfl⟩:=h
 exact⟨rfl,rfl,rfl,by simp,fun k hk=>by rw [heap_grow_old _ _ (by simpa using hk)]; rfl⟩
theorem Calls.gr{P:Program}{f:FuncId}{args:Array Value}{w:World}{n:Nat}{os:Array Obj}{v:Value}(h:Calls P f args (grow (w.drewN n) os) fun e w'=>e=.returned v/\Gr (grow (w.drewN n) os) w') :
  Calls P f args (grow (w.drewN n) os) fun e w''=>e=.returned v/\∃ p:GrownBy,w''=grow (w.drewN p.n) p.os :=
 Calls.grown_of (h.mono fun _ _ ⟨he,q,os',hq⟩=>⟨he,q,os',hq⟩)
theorem may_g(w:World)(x y:Int)(b:Bool)(hb:may (x,y)=b) :
  Calls Tryz.prog 221 #[.agg #[.int .i64 x,.int .i64 y]] w fun e w'=>e=.returned (.bool b)/\Gr w w':=by
 have HB:=Lib.hid hb
 clear hb
 by_cases h1:0<=x
 . by_cases h2:x < 8
   . by_cases h3:0<=y
     . by_cases h4:y<=2147483647
       . obtain rfl:b=true:=by rw [<-HB.out,qdm]; exact⟨h1,h2,h3,h4⟩
         go_enter Tryz.func221,Tryz.ntmps221
         go_wp2
         go_ret
         exact⟨rfl,Gr.alloc (Gr.refl _) _⟩
       obtain rfl:b=false:=by rw [<-HB.out,Bool.eq_false_iff,Ne,qdm]; omega
       go_enter Tryz.func221,Tryz.ntmps221
       go_wp2
       go_ret
       exact⟨rfl,Gr.alloc (Gr.refl _) _⟩
     obtain rfl:b=false:=by rw [<-HB.out,Bool.eq_false_iff,Ne,qdm]; omega
     go_enter Tryz.func221,Tryz.ntmps221
     go_wp2
     go_ret
     exact⟨rfl,Gr.alloc (Gr.refl _) _⟩
   obtain rfl:b=false:=by rw [<-HB.out,Bool.eq_false_iff,Ne,qdm]; omega
   go_enter Tryz.func221,Tryz.ntmps221
   go_wp2
   go_ret
   exact⟨rfl,Gr.alloc (Gr.refl _) _⟩
 obtain rfl:b=false:=by rw [<-HB.out,Bool.eq_false_iff,Ne,qdm]; omega
 go_enter Tryz.func221,Tryz.ntmps221
 go_wp2
 go_ret
 exact⟨rfl,Gr.alloc (Gr.refl _) _⟩
theorem qz9(w:World)(x y:Int)(b:Bool)(hb:may (x,y)=b) :
  Calls Tryz.prog 221 #[.agg #[.int .i64 x,.int .i64 y]] w fun e w'=>e=.returned (.bool b)/\Below w.heap.size w w':=(may_g w x y b hb).mono fun _ _ ⟨he,hg⟩=>⟨he,hg.below⟩
theorem qr5(w:World)(x y:Int)(b:Bool)(hb:may (x,y)=!b) :
  Calls Tryz.prog 220 #[.agg #[.int .i64 x,.int .i64 y]] w fun e w'=>e=.returned (.bool b)/\Below w.heap.size w w':=by
 have HB:=Lib.hid hb
 clear hb
 go_enter Tryz.func220,Tryz.ntmps220
 go_wp2_with fail
 refine (qz9 _ x y (!b) HB.out).mono ?_
 rintro e w1 ⟨rfl,hb1⟩
 have hb2:=((Below.refl w.heap.size w).alloc (Nat.le_refl _) _).trans (hb1.mono (by simp))
 go_wp2
 go_ret
 exact⟨by simp,hb2⟩
theorem qja(w:World)(x:Int):Calls Tryz.prog 235 #[.int .i64 x] w fun e w'=>e=.returned (.bool false)/\w'=w:=by
 go_enter Tryz.func235,Tryz.ntmps235
 go_wp2
 go_ret
 exact⟨by simp,rfl⟩
theorem qo2(w:World)(x y:Int)(r:Int)(hr:(if x < y then -1 else if y < x then 1 else 0)=r) :
  Calls Tryz.prog 225 #[.int .i64 x,.int .i64 y] w fun e w'=>e=.returned (.int .i64 r)/\w'=w:=by
 have HR:=Lib.hid hr
 clear hr
 by_cases h1:x < y
 . obtain rfl:r=-1:=by rw [<-HR.out,if_pos h1]
   go_enter Tryz.func225,Tryz.ntmps225
   go_wp2_with (go_at_call 235; refine (qja _ _).mono ?_; rintro e w' ⟨rfl,rfl⟩)
   go_ret
   exact⟨rfl,rfl⟩
 by_cases h2:y < x
 . obtain rfl:r=1:=by rw [<-HR.out,if_neg h1,if_pos h2]
   go_enter Tryz.func225,Tryz.ntmps225
   go_wp2_with (go_at_call 235; refine (qja _ _).mono ?_; rintro e w' ⟨rfl,rfl⟩)
   go_ret
   exact⟨rfl,rfl⟩
 obtain rfl:r=0:=by rw [<-HR.out,if_neg h1,if_neg h2]
 go_enter Tryz.func225,Tryz.ntmps225
 go_wp2_with (go_at_call 235; refine (qja _ _).mono ?_; rintro e w' ⟨rfl,rfl⟩)
 go_ret
 exact⟨rfl,rfl⟩
def q06(x y:Int):Int:=if x < y then -1 else if y < x then 1 else 0
theorem qo3(w:World)(x y:Int):Calls Tryz.prog 225 #[.int .i64 x,.int .i64 y] w fun e w'=>e=.returned (.int .i64 (q06 x y))/\w=w' :=
 (qo2 w x y _ rfl).mono fun _ _ ⟨he,hw⟩=>⟨he,hw.symm⟩
theorem q1j(w:World)(g:Nat)(a b r:Int)(h0:w.cell? ⟨g,0,none⟩=some (.int .i64 a))(h1:w.cell? ⟨g,1,none⟩=some (.int .i64 b))(hr:(if a=0 then b else a)=r) :
  Calls Tryz.prog 224 #[.slice (some ⟨g,0,none⟩) 2 2] w fun e w'=>e=.returned (.int .i64 r)/\w'=w:=by
 have HR:=Lib.hid hr
 clear hr
 go_enter Tryz.func224,Tryz.ntmps224
 go_wp2
 go_loop [8] (fun i=>∃ k:Nat,k<=2/\i=.int .i64 k/\Hid (0 < k->a=0)/\Hid (1 < k->b=0)) (fun i=>2-(intOf i).toNat)
 case atStart=>exact⟨0,by omega,rfl,fun h=>absurd h (by omega),fun h=>absurd h (by omega)⟩
 obtain⟨k,hk,rfl,ha,hb⟩:=hrel
 obtain rfl|rfl|rfl:k=0∨k=1∨k=2:=by omega
 . by_cases h:a=0
   . subst h
     go_wp2
     go_round
     case rel=>exact⟨1,by omega,rfl,(by first | exact fun _=>rfl | (intro _; trivial)),fun h=>absurd h (by omega)⟩
     case measure=>simp [intOf]
   obtain rfl:a=r:=by rw [<-HR.out,if_neg h]
   have hb:(a==0)=false:=by simpa using h
   have hb':(a != 0)=true:=by simpa using h
   go_wp2
   go_ret
   exact⟨rfl,rfl⟩
 . have h:=ha.out (by omega)
   subst h
   have e:b=r:=by rw [<-HR.out,if_pos rfl]
   subst e
   by_cases h:b=0
   . subst h
     go_wp2
     go_round
     case rel=>exact⟨2,by omega,rfl,(by first | exact fun _=>rfl | (intro _; trivial)),(by first | exact fun _=>rfl | (intro _; trivial))⟩
     case measure=>simp [intOf]
   have hb:(b==0)=false:=by simpa using h
   have hb':(b != 0)=true:=by simpa using h
   go_wp2
   go_ret
   exact⟨rfl,rfl⟩
 have e1:=ha.out (by omega)
 have e2:=hb.out (by omega)
 subst e1
 subst e2
 have e:r=0:=by rw [<-HR.out,if_pos rfl]
 subst e
 go_wp2
 go_ret
 exact⟨rfl,rfl⟩
def cf(a b:Int×Int):Int:=if (if b.2 < a.2 then (-1:Int) else if a.2 < b.2 then 1 else 0)=0 then (if a.1 < b.1 then -1 else if b.1 < a.1 then 1 else 0) else (if b.2 < a.2 then -1 else if a.2 < b.2 then 1 else 0)
theorem cf_lt(a b:Int×Int):decide (cf a b < 0)=ltB a b:=by
 rw [Bool.eq_iff_iff,qfv,decide_eq_true_iff]
 unfold cf
 repeat' split
 all_goals omega
theorem qyf(w:World)(x y z u:Int)(r:Int)(hr:cf (x,y) (z,u)=r) :
  Calls Tryz.prog 217 #[.agg #[.int .i64 x,.int .i64 y],.agg #[.int .i64 z,.int .i64 u]] w fun e w'=>e=.returned (.int .i64 r)/\∃ q os,w'=grow (w.drewN q) os:=by
 have HR:=Lib.hid hr
 clear hr
 have hpq:(if q06 u y=0 then q06 x z else q06 u y)=r:=by rw [<-HR.out]; rfl
 have HPQ:=Lib.hid hpq
 clear hpq HR
 go_enter Tryz.func217,Tryz.ntmps217
 go_wp2
 go_region_held3 (fun w'=>w'.cell? ⟨w.heap.size,0,none⟩=some (.int .i64 x)/\w'.cell? ⟨w.heap.size,1,none⟩=some (.int .i64 y)/\w'.cell? ⟨w.heap.size+1,0,none⟩=some (.int .i64 z)/\w'.cell? ⟨w.heap.size+1,1,none⟩=some (.int .i64 u)) (go_keep)
  (first
   | (go_at_call 225; refine (qo3 _ _ _).mono ?_; rintro e w' ⟨rfl,rfl⟩)
   | (go_at_call 224; refine (q1j _ _ (q06 u y) (q06 x z) r (by simp [go_sem]) (by simp [go_sem]) HPQ.out).mono ?_; rintro e w' ⟨rfl,rfl⟩))
 go_wp2
 go_ret
 exact⟨rfl,1,#[_,_,_],by simp only [alloc_eq_grow,grow_grow]; rfl⟩
end De
end Go.Proofs.YtmbppgjhdcmckaaGreatDoor
namespace Go.Proofs.YtmbppgjhdcmckaaGreatDoor
open Go.RowKit Go.Sort
namespace De
section
variable {σ:Type} (p:σ->Int×Int->Bool) (st:σ->Int×Int->σ)
def stF:σ->List (Int×Int)->σ
 | s,[]=>s
 | s,x::l=>stF (st s x) l
def qwt:σ->List (Int×Int)->Int->Int×σ
 | s,[],_=>(-1,s)
 | s,x::l,k=>if p s x then (k,st s x) else qwt (st s x) l (k+1)
def qjn:σ->List (Int×Int)->List (Int×Int)
 | _,[]=>[]
 | s,x::l=>if p s x then qjn (st s x) l else x::qjn (st s x) l
theorem qp2:∀ (l:List (Int×Int)) (s:σ) (x:Int×Int),stF st s (l++[x])=st (stF st s l) x
 | [],_,_=>rfl
 | y::l,s,x=>qp2 l (st s y) x
theorem qe3:∀ (l:List (Int×Int)) (s:σ) (x:Int×Int),qjn p st s (l++[x])=qjn p st s l++if p (stF st s l) x then [] else [x]
 | [],s,x=>by by_cases h:p s x=true<;>simp [qjn,stF,h]
 | y::l,s,x=>by
  simp only [List.cons_append,qjn,stF]
  split
  . exact qe3 l _ x
  rw [qe3 l _ x]
  rfl
theorem qqw:∀ (l:List (Int×Int)) (s:σ),(qjn p st s l).length<=l.length
 | [],_=>Nat.le_refl _
 | x::l,s=>by
  simp only [qjn]
  have:=qqw l (st s x)
  split
  . simp; omega
  simp; omega
theorem qje:∀ (l:List (Int×Int)) (s:σ) (k:Nat),(∀ r s',qwt p st s l k=(r,s')->(r=-1/\s'=stF st s l/\qjn p st s l=l) ∨
  ∃ i,i < l.length/\r=((k+i:Nat):Int)/\s'=stF st s (l.take (i+1))/\qjn p st s (l.take (i+1))=l.take i/\qjn p st s (l.take i)=l.take i)
 | [],s,k,r,s',h=>by
  simp only [qwt,Prod.mk.injEq] at h
  exact .inl ⟨h.1.symm,h.2.symm,rfl⟩
 | x::l,s,k,r,s',h=>by
  simp only [qwt] at h
  split at h
  . rename_i hp
    simp only [Prod.mk.injEq] at h
    refine .inr ⟨0,by simp,by rw [<-h.1]; rfl,?_,?_⟩
    . rw [<-h.2]; rfl
    exact⟨by simp [qjn,hp],rfl⟩
  rename_i hp
  rcases qje l (st s x) (k+1) r s' (by rw [<-h]; rfl) with ⟨h1,h2,h3⟩|⟨i,hi,h1,h2,h3,h4⟩
  . exact .inl ⟨h1,h2,by simp [qjn,hp,h3]⟩
  exact .inr ⟨i+1,by simpa using hi,by rw [h1]; congr 1; omega,h2,by simp [qjn,hp,h3],by simp [qjn,hp,h4]⟩
end
structure qj2{σ:Type}(g:Nat)(cb:Array Value)(base rb:Nat)(row:Option Nat)(Inv:World->σ->Prop)(Ok:Int×Int->Prop)(p:σ->Int×Int->Bool)(st:σ->Int×Int->σ):Prop where
 enters:∀ args w,(callFunc g args).run Tryz.prog w=.ok (.enter g args) w
 row_:∀ k,row=some k->base<=k/\k≠rb
 lt:∀ (W:World) (s:σ) (k:Nat),row=some k->Inv W s->k < W.heap.size
 call:∀ (W:World) (s:σ) (x:Int×Int),base<=W.heap.size->rb < W.heap.size->Inv W s->Ok x->Rng x->Calls Tryz.prog g (#[.agg #[.int .i64 x.1,.int .i64 x.2]]++cb) W fun e w' =>
  e=.returned (.bool (p s x))/\Inv w' (st s x)/\W.grownBy w' row
 alloc:∀ (W:World) (s:σ) (o:Obj),Inv W s->Inv (W.alloc o) s
 set_:∀ (W:World) (s:σ) (q:Addr) (v:Value),q.block=rb->Inv W s->Inv (W.setCell q v) s
theorem qj2.below{σ:Type}{g:Nat}{cb:Array Value}{base rb:Nat}{row:Option Nat}{Inv:World->σ->Prop}{Ok:Int×Int->Prop}{p:σ->Int×Int->Bool}{st:σ->Int×Int->σ}(hP:qj2 g cb base rb row Inv Ok p st)
  {W w':World} (hg:W.grownBy w' row) (hB:base<=W.heap.size):Below base W w':=(Below.refl base W).grown hg hB fun k hk=>(hP.row_ k hk).1
theorem qj2.kept{σ:Type}{g:Nat}{cb:Array Value}{base rb:Nat}{row:Option Nat}{Inv:World->σ->Prop}{Ok:Int×Int->Prop}{p:σ->Int×Int->Bool}{st:σ->Int×Int->σ}(hP:qj2 g cb base rb row Inv Ok p st)
  {W w':World} (hg:W.grownBy w' row) (hrb:rb < W.heap.size):∀ q:Addr,q.block=rb->w'.cell? q=W.cell? q/\w'.frozen? q=W.frozen? q:=fun q hq=>by
 have hb:=hg.block rb hrb (fun e=>(hP.row_ rb e.symm).2 rfl)
 exact⟨by simp only [World.cell?,hq,hb],by simp only [World.frozen?,hq,hb]⟩
theorem Descs.of_keep{w w':World}{rb:Nat}{A:Option Addr}{n:Nat}{xs:List (Int×Int)}(h:Descs w rb (rb+1) A n xs)(hk:∀ q:Addr,q.block=rb->w'.cell? q=w.cell? q/\w'.frozen? q=w.frozen? q):Descs w' rb (rb+1) A n xs :=
 h.keep fun p h1 h2=>hk p (by omega)
theorem q0h{xs:List (Int×Int)}{k:Nat}(h:k < xs.length):xs.drop k=(xs[k]?.getD (0,0))::xs.drop (k+1):=by
 rw [List.drop_eq_getElem_cons h,List.getElem?_eq_getElem h]
 rfl
theorem qeu{σ:Type}{g:Nat}{cb:Array Value}{base rb:Nat}{row:Option Nat}{Inv:World->σ->Prop}{Ok:Int×Int->Prop}{p:σ->Int×Int->Bool}{st:σ->Int×Int->σ}(hP:qj2 g cb base rb row Inv Ok p st)
  (w:World) (s0:σ) (hinv:Inv w s0) (hbase:base<=w.heap.size) (hrb:rb < w.heap.size) (A:Option Addr) (n c:Nat) (xs:List (Int×Int)) (hX:Descs w rb (rb+1) A n xs) (hok:∀ x∈xs,Ok x) (r:Int) (s1:σ) (hr:qwt p st s0 xs 0=(r,s1)) :
  Calls Tryz.prog 206 #[.slice A n c,.func (.func g) #[] cb] w fun e w'=>e=.returned (.int .i64 r)/\Inv w' s1/\Below base w w'/\Descs w' rb (rb+1) A n xs:=by
 have HR:=Lib.hid hr
 have HL:=Lib.hid hX.len
 have HOK:=Lib.hid hok
 have eg:=hP.enters
 have hbig:=hX.big
 clear hr hok
 go_enter Tryz.func206,Tryz.ntmps206
 go_wp2
 go_loopw [5,8] (fun _ i wr=>∃ k:Nat,∃ s:σ,i=.int .i64 k/\k<=n/\Hid (qwt p st s (xs.drop k) k=(r,s1))/\Hid (Inv wr s)/\Below base w wr/\Descs wr rb (rb+1) A n xs) (fun _ i _=>n-(intOf i).toNat)
 case atStart=>exact⟨0,s0,rfl,Nat.zero_le _,HR.out,hinv,Below.refl _ _,hX⟩
 obtain⟨k,s,rfl,hk,hidx,hi,hnx,hD⟩:=hrel
 by_cases hlt:k < n
 . obtain⟨b,off,rfl,h1,h2,hc⟩:=hD.row (by omega)
   obtain rfl:rb=b:=by omega
   obtain⟨⟨g1,g2⟩,g3,g4⟩:=hc k hlt
   have hsz:=hnx.size
   have hid2:=hidx.out
   rw [q0h (by rw [HL.out]; exact hlt)] at hid2
   have hm:xs[k]?.getD (0,0)∈xs:=by rw [List.getElem?_eq_getElem (by rw [HL.out]; exact hlt)]; exact List.getElem_mem _
   have hrng:=hD.wf _ hm
   have hcall:=hP.call wr s _ (by omega) (by omega) hi.out (HOK.out _ hm) hrng
   clear hc g2 g4 hidx
   generalize xs[k]?.getD (0,0)=x at g1 g3 hid2 hrng hcall
   obtain⟨x1,x2⟩:=x
   simp only [qwt] at hid2
   have HC:=Lib.hid hcall
   clear hcall
   cases hq:p s (x1,x2) with
   | true =>
    have hcall:=HC.out
    rw [hq] at hcall hid2
    rw [if_pos rfl] at hid2
    obtain⟨rfl,rfl⟩:=Prod.mk.inj hid2
    have HC2:=Lib.hid hcall
    clear hcall hq HC hid2 HR
    go_wp2_with fail
    refine HC2.out.mono ?_
    rintro e w' ⟨rfl,i1,hg⟩
    have i2:=hP.below hg (by omega)
    have HI1:=Lib.hid i1
    have HI3:=Lib.hid (hP.kept hg (by omega))
    clear i1 hg
    go_wp2
    go_ret
    exact⟨rfl,HI1.out,hnx.trans i2,hD.of_keep HI3.out⟩
   | false =>
    have hcall:=HC.out
    rw [hq] at hcall hid2
    rw [if_neg (by simp)] at hid2
    have HI2:=Lib.hid hid2
    have HC2:=Lib.hid hcall
    clear hcall hq HC hid2
    go_wp2_with fail
    refine HC2.out.mono ?_
    rintro e w' ⟨rfl,i1,hg⟩
    have i2:=hP.below hg (by omega)
    have HI1:=Lib.hid i1
    have HI3:=Lib.hid (hP.kept hg (by omega))
    clear i1 hg
    go_wp2
    go_roundw
    case rel=>exact⟨k+1,st s (x1,x2),by go_num,by omega,by simpa [Hid] using HI2.out,HI1,hnx.trans i2,hD.of_keep HI3.out⟩
    case measure=>simp [intOf]; omega
 obtain rfl:k=n:=by omega
 have hid2:=hidx.out
 rw [List.drop_eq_nil_of_le (by rw [HL.out]; exact Nat.le_refl _)] at hid2
 obtain⟨rfl,rfl⟩:=Prod.mk.inj hid2
 clear hid2 hidx HR
 go_wp2
 go_ret
 exact⟨rfl,hi.out,hnx,hD⟩
theorem qil{g:Nat}{cb:Array Value}{base rb:Nat}{row:Option Nat}{Inv:World->Unit->Prop}{Ok:Int×Int->Prop}{p:Unit->Int×Int->Bool}(hP:qj2 g cb base rb row Inv Ok p (fun _ _=>()))
  (w:World) (hinv:Inv w ()) (hbase:base<=w.heap.size) (hrb:rb < w.heap.size) (A:Option Addr) (n c:Nat) (xs:List (Int×Int)) (hX:Descs w rb (rb+1) A n xs) (hok:∀ x∈xs,Ok x) (b:Bool) (hb:xs.any (p ())=b) :
  Calls Tryz.prog 219 #[.slice A n c,.func (.func g) #[] cb] w fun e w'=>e=.returned (.bool b)/\Below base w w':=by
 obtain⟨r,hr⟩:∃ r,qwt p (fun _ _=>()) () xs 0=r:=⟨_,rfl⟩
 obtain⟨r,u⟩:=r
 have hrb:decide (0<=r)=b:=by
  rw [<-hb]
  rcases qje p (fun _ _=>()) xs () 0 r u hr with ⟨h1,h2,h3⟩|⟨i,hi,h1,_,h3,h4⟩
  . rw [h1]
    symm
    rw [show decide ((0:Int)<=-1)=false from rfl,Bool.eq_false_iff,Ne,List.any_eq_true]
    rintro⟨x,hx,hp⟩
    clear hr h1 h2 hX hok hb
    induction xs with
    | nil=>simp at hx
    | cons y l ih =>
     simp only [qjn] at h3
     split at h3
     . have:=qqw p (fun _ _=>()) l ()
       rw [h3] at this
       simp at this
       omega
     rename_i hn
     rcases List.mem_cons.1 hx with rfl|hx
     . exact hn hp
     exact ih (List.cons.inj h3).2 hx
  rw [h1]
  have ht:=qe3 p (fun _ _=>()) (xs.take i) () xs[i]
  rw [<-List.take_succ_eq_append_getElem hi,h3] at ht
  have hp:p () xs[i]=true:=by
   by_cases hp:p () xs[i]=true
   . exact hp
   exfalso
   rw [if_neg hp] at ht
   rw [h4] at ht
   have h6:=congrArg List.length ht
   rw [List.length_append,List.length_singleton] at h6
   omega
  symm
  rw [decide_eq_true (by omega),List.any_eq_true]
  exact⟨xs[i],List.getElem_mem _,hp⟩
 have HRB:=Lib.hid hrb
 clear hrb hb
 go_enter Tryz.func219,Tryz.ntmps219
 go_wp2_with fail
 refine (qeu hP _ () hinv hbase (by assumption) A n c xs hX hok r u hr).mono ?_
 rintro e w' ⟨rfl,_,i2,_⟩
 clear hr
 go_wp2
 go_ret
 exact⟨by rw [<-HRB.out]; rfl,i2⟩
end De
end Go.Proofs.YtmbppgjhdcmckaaGreatDoor
namespace Go.Proofs.YtmbppgjhdcmckaaGreatDoor
open Go.RowKit Go.Sort Go.Shelf
namespace De
theorem Descs.exact{w:World}{lo hi:Nat}{A:Option Addr}{n:Nat}{xs:List (Int×Int)}(h:Descs w lo hi A n xs)(hw:hi<=w.heap.size)(h0:0 < w.heap.size):∃ rb,rb < w.heap.size/\(0 < n->lo<=rb/\rb < hi)/\Descs w rb (rb+1) A n xs:=by
 by_cases hn:0 < n
 . obtain⟨b,off,e,h1,h2,hc⟩:=h.row hn
   exact⟨b,by omega,fun _=>⟨h1,h2⟩,h.len,h.wf,h.big,fun _=>⟨b,off,e,Nat.le_refl _,by omega,hc⟩⟩
 obtain rfl:n=0:=by omega
 have:=h.zero rfl
 subst this
 exact⟨0,h0,fun h=>absurd h (by omega),Descs.nil_ ..⟩
theorem qcy{B:Nat}{w w':World}(h:Below B w w')(hB:w.heap.size<=B)(row:Option Nat):w.grownBy w' row:=⟨h.os,h.tape,h.output,h.size,fun i hi _=>h.block i (by omega)⟩
theorem qor(base rb:Nat):qj2 220 #[] base rb none (fun _ (_:Unit)=>True) (fun _=>True) (fun _ x=>!may x) (fun _ _=>()) where
 enters:=enters_of Tryz.func220 (by kernel_rfl) rfl
 row_ _ h:=by cases h
 lt _ _ _ h _:=by cases h
 call W s x h1 h2 _ _ _:=(qr5 W x.1 x.2 (!may x) (by simp)).mono fun e w' ⟨he,hb⟩=>⟨he,trivial,qcy hb (Nat.le_refl _) _⟩
 alloc _ _ _ _:=trivial
 set_ _ _ _ _ _ _:=trivial
theorem Check_any(w:World)(lo hi:Nat)(A:Option Addr)(n c:Nat)(xs:List (Int×Int))(hX:Descs w lo hi A n xs)(hhi:hi<=w.heap.size)(h0:0 < w.heap.size)(r:Int)(hr:qct xs=r) :
  Calls Tryz.prog 213 #[.slice A n c] w fun e w'=>e=.returned (.int .i64 r)/\Below w.heap.size w w':=by
 have HR:=Lib.hid hr
 have HL:=Lib.hid hX.len
 have hbig:=hX.big
 clear hr
 by_cases h64:n > 64
 . have e:r=4:=by rw [<-HR.out,qct,if_pos (by rw [HL.out]; exact h64)]
   subst e
   go_enter Tryz.func213,Tryz.ntmps213
   go_wp2
   go_ret
   exact⟨rfl,Below.refl _ _⟩
 obtain⟨rb,hrb,_,hXe⟩:=hX.exact hhi h0
 have hc0:=qil (qor w.heap.size rb) w trivial (Nat.le_refl _) hrb A n c xs hXe (fun _ _=>trivial)
 by_cases hall:xs.all may=true
 . have e:r=0:=by rw [<-HR.out,qct,if_neg (by rw [HL.out]; exact h64),if_pos hall]
   subst e
   have hc:=hc0 false (by rw [List.any_eq_not_all_not]; simpa using hall)
   have HC:=Lib.hid hc
   clear hc hc0 hall hXe hX
   go_enter Tryz.func213,Tryz.ntmps213
   go_wp2_with fail
   refine HC.out.mono ?_
   rintro e w' ⟨rfl,hb⟩
   go_wp2
   go_ret
   exact⟨rfl,hb⟩
 have e:r=8:=by rw [<-HR.out,qct,if_neg (by rw [HL.out]; exact h64),if_neg hall]
 subst e
 have hc:=hc0 true (by rw [List.any_eq_not_all_not]; simpa using hall)
 have HC:=Lib.hid hc
 clear hc hc0 hall hXe hX
 go_enter Tryz.func213,Tryz.ntmps213
 go_wp2_with fail
 refine HC.out.mono ?_
 rintro e w' ⟨rfl,hb⟩
 go_wp2
 go_ret
 exact⟨rfl,hb⟩
theorem qnm{xs:List (Int×Int)}(h:qct xs=0):xs.length<=64/\xs.all may=true:=by
 unfold qct at h
 split at h
 . cases h
 split at h
 . exact⟨by omega,by assumption⟩
 cases h
theorem Tryz.info195:(Tryz.prog.info? 195).map (fun i=>(i.zero,i.size,i.bytes))=some (some (.agg #[.int .i64 0,.int .i64 0]),2,16):=by kernel_rfl
theorem qj6(w:World)(lo hi:Nat)(A:Option Addr)(n c:Nat)(xs:List (Int×Int))(hX:Descs w lo hi A n xs)(hhi:hi<=w.heap.size)(hn:n<=1000000) :
  Calls Tryz.prog 214 #[.slice A n c] w fun e w'=>∃ A' c',e=.returned (.slice A' n c')/\n<=c'/\Below w.heap.size w w'/\w'.ownsRow w.heap.size 195 2 (.slice A' n c') n (qbe xs):=by
 obtain⟨i0,hi0,hz0,hz1,hz2⟩:=info_parts Tryz.info195
 have HL:=Lib.hid hX.len
 have hbig:=hX.big
 rcases A with _|a
 . by_cases hn:n=0
   . subst hn
     have:=hX.zero rfl
     subst this
     have hnil:=Lib.run_eql_slice_nil (P:=Tryz.prog) w 57 195 none 0 c 0 0 Tryz.underlying57
     go_enter Tryz.func214,Tryz.ntmps214
     go_wp2
     go_ret
     exact⟨none,0,rfl,Nat.le_refl _,Below.refl _ _,World.ownsRow_nil _ _ _ _⟩
   obtain⟨_,_,e,_⟩:=hX.row (by omega)
   cases e
 have hnil:=Lib.run_eql_slice_nil (P:=Tryz.prog) w 57 195 (some a) n c 0 0 Tryz.underlying57
 go_enter Tryz.func214,Tryz.ntmps214
 go_wp2_with (first
  | (at_builtin; refine qag _ rfl (.tmp 5) (.tmp 6) 57 rfl w.heap.size 195 i0 _ 2 16 Tryz.underlying57 hi0 hz0 hz1 hz2 rfl (by decide) _ _ _ rfl (qdl w w.heap.size _ 2 (Nat.le_refl _)) _ _ _ n _ _ rfl (hX.alloc hhi _).raw ?c1 ?c2 ?c3 ?c4 ?_))
 case c1=>exact flatD_one _
 case c2=>unfold maxLen; omega
 case c3=>omega
 case c4=>simp
 intro A2 c2 w2 hown2 hgrow2 _
 have hb2:Below w.heap.size w w2:=((Below.refl _ w).alloc (Nat.le_refl _) _).grown hgrow2 (by simp) (fun q hq=>by simp [Value.ownBlock] at hq; omega)
 have hc2:=qd0 hown2
 clear hgrow2
 go_wp2
 go_ret
 exact⟨A2,c2,by simp,hc2,hb2,hown2⟩
def Sm(a b:List (Int×Int)):Bool:=a==b
theorem neqD(w:World)(a b c d:Int):(binOp .neq 195 (.agg #[.int .i64 a,.int .i64 b]) (.agg #[.int .i64 c,.int .i64 d])).run Tryz.prog w=.ok (.bool (!(a==c && b==d))) w:=by
 have u3:=Tryz.underlying3
 have hS:Tryz.prog.underlying 195=some (.struct (Tryz.prog.fieldsOf 195)):=by kernel_rfl
 have hp:Tryz.prog.stoodInHeld 195=false:=by kernel_rfl
 rw [run_neq_struct,show (10000:Nat)=9999+1 from rfl,run_equalIn_agg w 9999 195 _ _ hS hp]
 simp only [Program.fieldsOf,Tryz.underlying195]
 go_simp
 by_cases h1:a=c<;>by_cases h2:b=d<;>simp [h1,h2]
theorem qqt:Tryz.prog.eqGuardType Tryz.prog.depth 195=false:=by kernel_rfl
theorem qiz{xs ys:List (Int×Int)}{k:Nat}(h1:k < xs.length)(h2:k < ys.length)(h:xs.take k=ys.take k)(he:xs[k]?.getD (0,0)=ys[k]?.getD (0,0)):xs.take (k+1)=ys.take (k+1):=by
 rw [List.take_succ_eq_append_getElem h1,List.take_succ_eq_append_getElem h2,h]
 rw [List.getElem?_eq_getElem h1,List.getElem?_eq_getElem h2] at he
 congr 1
 simpa using he
theorem Equal_any(w:World)(lo hi lo' hi':Nat)(A A':Option Addr)(n c n' c':Nat)(xs ys:List (Int×Int))(hX:Descs w lo hi A n xs)(hY:Descs w lo' hi' A' n' ys)(r:Bool)(hr:Sm xs ys=r) :
  Calls Tryz.prog 193 #[.slice A n c,.slice A' n' c'] w fun e w'=>e=.returned (.bool r)/\∃ m,w'=w.drewN m:=by
 have HR:=Lib.hid hr
 have HL:=Lib.hid hX.len
 have HL':=Lib.hid hY.len
 have hbig:=hX.big
 have hbig':=hY.big
 clear hr
 by_cases hn:n=n'
 . subst hn
   have hne:((n:Int) != (n:Int))=false:=by simp
   go_enter Tryz.func193,Tryz.ntmps193
   go_wp2
   go_loopw [5,13] (fun _ i wr=>∃ k m:Nat,i=.int .i64 k/\k<=n/\Hid (xs.take k=ys.take k)/\wr=w.drewN m) (fun _ i _=>n-(intOf i).toNat)
   case atStart=>exact⟨0,0,rfl,Nat.zero_le _,rfl,rfl⟩
   obtain⟨k,m,rfl,hk,heq,rfl⟩:=hrel
   by_cases hlt:k < n
   . obtain⟨b,off,rfl,h1,h2,hc⟩:=hX.row (by omega)
     obtain⟨b',off',rfl,h1',h2',hc'⟩:=hY.row (by omega)
     obtain⟨⟨g1,_⟩,g3,_⟩:=hc k hlt
     obtain⟨⟨f1,_⟩,f3,_⟩:=hc' k hlt
     clear hc hc'
     have hkn:(k:Int) < n:=by omega
     have hk0:(0:Int)<=k:=by omega
     generalize hx:xs[k]?.getD (0,0)=x at g1 g3
     generalize hy:ys[k]?.getD (0,0)=y at f1 f3
     obtain⟨x1,x2⟩:=x
     obtain⟨y1,y2⟩:=y
     have HX:=Lib.hid hx
     have HY:=Lib.hid hy
     have hneq:=fun W=>neqD W x1 x2 y1 y2
     have hgd:=qqt
     clear hx hy
     by_cases hxy:x1=y1/\x2=y2
     . obtain⟨rfl,rfl⟩:=hxy
       rw [show (!(x1==x1 && x2==x2))=false by simp] at hneq
       go_wp2
       go_quiet (fail)
       go_wp2
       go_roundw
       case rel=>exact⟨k+1,_,by go_num,by omega,qiz (by rw [HL.out]; exact hlt) (by rw [HL'.out]; exact hlt) heq.out (by rw [HX.out,HY.out]),rfl⟩
       case measure=>simp [intOf]; omega
     have hf:(!(x1==y1 && x2==y2))=true:=by
      by_cases h1:x1=y1
      . have h2:x2≠y2:=fun h=>hxy ⟨h1,h⟩
        simp [h2]
      simp [h1]
     rw [hf] at hneq
     have e:r=false:=by
      rw [<-HR.out]
      unfold Sm
      rw [beq_eq_false_iff_ne]
      intro h
      have h3:=HX.out
      rw [h,HY.out] at h3
      have h4:=Prod.mk.inj h3
      exact hxy ⟨h4.1.symm,h4.2.symm⟩
     subst e
     go_wp2
     go_quiet (fail)
     go_wp2
     go_ret
     exact⟨rfl,_,World.drewN_drewN _ _ _⟩
   obtain rfl:k=n:=by omega
   have e:r=true:=by
    rw [<-HR.out]
    unfold Sm
    have h:=heq.out
    rw [List.take_of_length_le (by rw [HL.out]; exact Nat.le_refl _),List.take_of_length_le (by rw [HL'.out]; exact Nat.le_refl _)] at h
    rw [h]
    exact beq_self_eq_true _
   subst e
   clear heq
   go_wp2
   go_ret
   exact⟨rfl,_,rfl⟩
 have hne:((n:Int) != (n':Int))=true:=by rw [bne_iff_ne]; omega
 have e:r=false:=by
  rw [<-HR.out]
  unfold Sm
  rw [beq_eq_false_iff_ne]
  intro h
  have h1:=HL.out
  have h2:=HL'.out
  rw [h] at h1
  omega
 subst e
 go_enter Tryz.func193,Tryz.ntmps193
 go_wp2
 go_ret
 exact⟨rfl,0,rfl⟩
end De
end Go.Proofs.YtmbppgjhdcmckaaGreatDoor