/- Limbs: digits, shifts, sums in place, the lowest and the highest bit: no program in sight. -/
import Derived.Test.YtmbppgjhdcmckaaGreatDoorBj01
import Derived.IntWalk
import Derived.Laws.BitsAllLaws
import Derived.Shelf.Spec.TrailingZeros
import Derived.Lib.BitFns
import Derived.Deep.WholeRow
import Derived.Deep.MidRow
import Derived.Outline
import Derived.Deep.RegionLawGrows
set_option maxHeartbeats 102400000
set_option maxRecDepth 100000
namespace Go.Proofs.YtmbppgjhdcmckaaGreatDoor
namespace Dp
theorem qtq(B:Nat)(l:List Int)(k:Nat):num B l=num B (l.take k)+B^k*num B (l.drop k):=by
 by_cases h:k<=l.length
 . conv=>lhs; rw [<-List.take_append_drop k l]
   rw [qa8,List.length_take,Nat.min_eq_left h]
 rw [List.take_of_length_le (by omega),List.drop_eq_nil_of_le (by omega)]
 simp [num]
theorem qbh(B:Nat)(l:List Int)(k:Nat):num B (l.take (k+1))=num B (l.take k)+B^k*(l[k]?.getD 0).toNat:=by
 by_cases h:k < l.length
 . rw [List.take_succ_eq_append_getElem h,qa8,List.getElem?_eq_getElem h]
   simp [num,Nat.min_eq_left (Nat.le_of_lt h)]
 rw [List.take_of_length_le (by omega),List.take_of_length_le (by omega),List.getElem?_eq_none (by omega)]
 simp
theorem qyb{B:Nat}{l:List Int}(h:Dig B l)(k:Nat):Dig B (l.take k):=fun x hx=>h x (List.mem_of_mem_take hx)
theorem qa3{B:Nat}(hB:0 < B){l:List Int}(h:Dig B l)(k:Nat):∃ d:Nat,l[k]?.getD 0=(d:Int)/\d < B:=by
 by_cases hk:k < l.length
 . rw [List.getElem?_eq_getElem hk]
   have:=h _ (List.getElem_mem hk)
   exact⟨l[k].toNat,by simp only [Option.getD_some]; omega,by omega⟩
 rw [List.getElem?_eq_none (by omega)]
 exact⟨0,rfl,hB⟩
theorem qf4{B:Nat}{l:List Int}(h:Dig B l)(k d:Nat)(hd:d < B):Dig B (l.set k (d:Int)):=fun x hx=>by
 rcases List.mem_or_eq_of_mem_set hx with h'|h'
 . exact h x h'
 subst h'; omega
theorem qfz{B:Nat}(hB:0 < B){l:List Int}(h:Dig B l)(k:Nat):num B (l.take k) < B^k:=by
 have h1:=qc0 B hB (l.take k) (qyb h k)
 exact Nat.lt_of_lt_of_le h1 (Nat.pow_le_pow_right hB (by simp; omega))
theorem qvt{B:Nat}(hB:0 < B){l:List Int}(h:Dig B l)(k:Nat):l[k]?.getD 0=((num B l/B^k%B:Nat):Int):=by
 obtain⟨d,hd,hlt⟩:=qa3 hB h k
 have h1:=qtq B l (k+1)
 rw [qbh,hd,Int.toNat_natCast] at h1
 have h2:=qfz hB h k
 have hp:0 < B^k:=Nat.pow_pos hB
 have e:num B l/B^k=d+B*num B (l.drop (k+1)):=by
  rw [h1,Nat.pow_succ,Nat.mul_assoc,Nat.add_assoc,<-Nat.mul_add,Nat.add_mul_div_left _ _ hp,Nat.div_eq_of_lt h2]
  omega
 rw [hd,e,Nat.add_mul_mod_self_left,Nat.mod_eq_of_lt hlt]
theorem qqi{B:Nat}:∀ (l:List Int) (M:Nat),(∀ j,j < l.length->l[j]?.getD 0=((M/B^j%B:Nat):Int))->M < B^l.length->num B l=M
 | [],M,_,h=>by simp at h; simp [num,h]
 | x::l,M,h,hM=>by
  have h0:=h 0 (by simp)
  simp at h0
  have ih:=qqi l (M/B) (fun j hj=>by
   have:=h (j+1) (by simpa using hj)
   simp only [List.getElem?_cons_succ] at this
   rw [this,Nat.pow_succ,Nat.mul_comm,Nat.div_div_eq_div_mul]) (by
   rw [List.length_cons,Nat.pow_succ,Nat.mul_comm] at hM
   exact Nat.div_lt_of_lt_mul hM)
  simp only [num]
  rw [ih,h0]
  have:=Nat.mod_add_div M B
  omega
theorem last_(B:Nat)(l:List Int)(h:l≠[]):num B l=num B l.dropLast+B^(l.length-1)*(l.getLast h).toNat:=by
 conv=>lhs; rw [<-List.dropLast_concat_getLast h]
 rw [qa8]
 simp [num]
theorem q0l{B:Nat}(hB:0 < B){l:List Int}(hd:Dig B l)(hg:l≠[]->B^(l.length-1)<=num B l):qn6 l:=fun h h0=>by
 have h1:=hg h
 rw [last_ B l h,h0] at h1
 have h2:=qc0 B hB l.dropLast fun x hx=>hd x (List.dropLast_subset _ hx)
 simp at h1 h2
 omega
theorem qnv{B:Nat}(hB:2<=B){l:List Int}{M:Nat}(h:∀ j,j < l.length->l[j]?.getD 0=((M/B^j%B:Nat):Int))(hM:M < B^l.length)(hg:l≠[]->B^(l.length-1)<=M):l=qaf B M:=by
 have hn:=qqi l M h hM
 have hd:Dig B l:=fun x hx=>by
  obtain⟨j,hj,rfl⟩:=List.getElem_of_mem hx
  have h1:=h j hj
  rw [List.getElem?_eq_getElem hj,Option.getD_some] at h1
  have h2:=Nat.mod_lt (M/B^j) (show 0 < B by omega)
  omega
 exact qdx hB hd (q0l (by omega) hd fun hne=>by rw [hn]; exact hg hne) hn
theorem qhd(B:Nat):∀ (l:List Int) (j:Nat) (v:Int),j < l.length->num B (l.set j v)+B^j*(l[j]?.getD 0).toNat=num B l+B^j*v.toNat
 | [],j,v,h=>by simp at h
 | x::l,0,v,_=>by simp [num]; omega
 | x::l,j+1,v,h=>by
  have ih:=qhd B l j v (by simpa using h)
  simp only [List.set_cons_succ,num,List.getElem?_cons_succ,Nat.pow_succ]
  have e1:B^j*B*(l[j]?.getD 0).toNat=B*(B^j*(l[j]?.getD 0).toNat):=by rw [Nat.mul_comm (B^j) B,Nat.mul_assoc]
  have e2:B^j*B*v.toNat=B*(B^j*v.toNat):=by rw [Nat.mul_comm (B^j) B,Nat.mul_assoc]
  rw [e1,e2]
  have:B*num B (l.set j v)+B*(B^j*(l[j]?.getD 0).toNat)=B*num B l+B*(B^j*v.toNat):=by rw [<-Nat.mul_add,ih,Nat.mul_add]
  omega
theorem qp6(B:Nat)(l:List Int)(k:Nat)(v:Int)(h:k < l.length):num B ((l.set k v).take (k+1))=num B (l.take k)+B^k*v.toNat:=by
 rw [qbh,List.take_set_of_le (Nat.le_refl _),List.getElem?_set_self h]
 rfl
theorem qlb(l:List Int){k j:Nat}(v:Int)(h:k≠j):(l.set k v)[j]?.getD 0=l[j]?.getD 0:=by
 rw [List.getElem?_set_ne h]
theorem qmy(k:Nat):4294967296^k=2^(32*k):=by rw [Nat.pow_mul]
theorem qv6(M r:Nat)(hr:r < 32):(((M/4294967296%4294967296)*4294967296+M%4294967296)/2^r)%4294967296=M/2^r%4294967296:=by
 have e1:(M/4294967296%4294967296)*4294967296+M%4294967296=M%2^64:=by omega
 rw [e1]
 have hp:0 < 2^r:=Nat.pow_pos (by decide)
 have e2:M=2^r*(2^(64-r)*(M/2^64))+M%2^64:=by
  rw [<-Nat.mul_assoc,<-Nat.pow_add,show r+(64-r)=64 by omega]
  omega
 have e3:M/2^r=2^(64-r)*(M/2^64)+M%2^64/2^r:=by
  conv=>lhs; rw [e2]
  rw [Nat.mul_add_div hp]
 have e4:2^(64-r)=4294967296*2^(32-r):=by
  rw [show (4294967296:Nat)=2^32 by rfl,<-Nat.pow_add]
  congr 1
  omega
 rw [e3,e4,Nat.mul_assoc,Nat.mul_add_mod]
theorem qpf{l:List Int}(hd:Dig 4294967296 l)(i k:Nat)(hi lo:Nat)(h1:l[i+k/32+1]?.getD 0=(hi:Int))(h0:l[i+k/32]?.getD 0=(lo:Int)) :
  ((hi*4294967296+lo)/2^(k%32))%4294967296=num 4294967296 l/2^k/4294967296^i%4294967296:=by
 rw [qvt (by decide) hd] at h1 h0
 have h1':num 4294967296 l/4294967296^(i+k/32+1)%4294967296=hi:=by omega
 have h0':num 4294967296 l/4294967296^(i+k/32)%4294967296=lo:=by omega
 rw [Nat.pow_succ,<-Nat.div_div_eq_div_mul] at h1'
 have:=qv6 (num 4294967296 l/4294967296^(i+k/32)) (k%32) (Nat.mod_lt _ (by decide))
 rw [h1',h0'] at this
 rw [this,Nat.div_div_eq_div_mul,Nat.div_div_eq_div_mul,qmy,qmy,<-Nat.pow_add,<-Nat.pow_add]
 congr 3
 omega
theorem qrd{ws xs:List Int}{i k:Nat}(hx:Dig 4294967296 xs)(h:num 4294967296 ws=num 4294967296 (xs.take i)*2^k) :
  num 4294967296 ws < 4294967296^(i+k/32)*2^(k%32):=by
 have h1:=qfz (by decide) hx i
 have ek:k=32*(k/32)+k%32:=by omega
 have e2:(2:Nat)^k=4294967296^(k/32)*2^(k%32):=by rw [qmy,<-Nat.pow_add,<-ek]
 rw [h,Nat.pow_add,Nat.mul_assoc,<-e2]
 exact Nat.mul_lt_mul_of_pos_right h1 (Nat.pow_pos (by decide))
theorem q09{ws:List Int}{j r p:Nat}(hw:Dig 4294967296 ws)(hb:num 4294967296 ws < 4294967296^j*2^r)(hp:ws[j]?.getD 0=(p:Int)):p < 2^r:=by
 rw [qvt (by decide) hw] at hp
 have h2:num 4294967296 ws/4294967296^j%4294967296=p:=Int.ofNat.inj hp
 have h3:num 4294967296 ws/4294967296^j < 2^r:=Nat.div_lt_of_lt_mul hb
 rw [<-h2]
 exact Nat.lt_of_le_of_lt (Nat.mod_le _ _) h3
theorem q08{ws:List Int}{j r:Nat}(hr:r < 32)(hw:Dig 4294967296 ws)(hb:num 4294967296 ws < 4294967296^j*2^r):ws[j+1]?.getD 0=0:=by
 have hr2:2^r<=2^32:=Nat.pow_le_pow_right (by decide) (by omega)
 have h2:num 4294967296 ws < 4294967296^(j+1):=Nat.lt_of_lt_of_le hb (by rw [Nat.pow_succ]; exact Nat.mul_le_mul_left _ hr2)
 rw [qvt (by decide) hw,Nat.div_eq_of_lt h2]
 rfl
theorem qwv{x p r:Nat}(hr:r < 32)(hp1:p < 2^r):p+x*2^r%4294967296 < 4294967296:=by
 have e:(4294967296:Nat)=2^r*2^(32-r):=by rw [<-Nat.pow_add,show r+(32-r)=32 by omega]
 have h2:x*2^r%4294967296=2^r*(x%2^(32-r)):=by
  conv=>lhs; rw [e,Nat.mul_comm x]
  rw [Nat.mul_mod_mul_left]
 have h3:x%2^(32-r) < 2^(32-r):=Nat.mod_lt _ (Nat.pow_pos (by decide))
 have h4:2^r*(x%2^(32-r))+2^r<=4294967296:=by
  conv=>rhs; rw [e]
  rw [<-Nat.mul_succ]
  exact Nat.mul_le_mul_left _ h3
 rw [h2]
 exact Nat.lt_of_lt_of_le (by rw [Nat.add_comm]; exact Nat.add_lt_add_left hp1 _) h4
theorem qzk{x r:Nat}(hr:r < 32)(hx:x < 4294967296):x*2^r/4294967296 < 4294967296:=by
 have hr2:2^r<=2^32:=Nat.pow_le_pow_right (by decide) (by omega)
 have h1:x*2^r < 4294967296*2^r:=Nat.mul_lt_mul_of_pos_right hx (Nat.pow_pos (by decide))
 exact Nat.lt_of_lt_of_le (Nat.div_lt_of_lt_mul h1) hr2
theorem qww(B:Nat){ws:List Int}{j p a b:Nat}(hl:j+1 < ws.length)(hp:ws[j]?.getD 0=(p:Int))(hz:ws[j+1]?.getD 0=0) :
  num B ((ws.set j ((p+a:Nat):Int)).set (j+1) ((b:Nat):Int))=num B ws+B^j*(a+B*b):=by
 have s1:=qhd B ws j ((p+a:Nat):Int) (by omega)
 have s2:=qhd B (ws.set j ((p+a:Nat):Int)) (j+1) ((b:Nat):Int) (by simp; omega)
 rw [qlb _ _ (by omega),hz] at s2
 rw [hp] at s1
 simp only [Int.toNat_natCast,Int.toNat_zero,Nat.mul_zero,Nat.add_zero] at s1 s2
 rw [s2,Nat.pow_succ,Nat.mul_assoc,Nat.mul_add]
 rw [Nat.mul_add] at s1
 generalize B^j*p=P at *
 generalize B^j*a=Q at *
 generalize B^j*(B*b)=R at *
 omega
theorem qtl{ws xs:List Int}{i k x:Nat}(h:num 4294967296 ws=num 4294967296 (xs.take i)*2^k)(hxi:xs[i]?.getD 0=(x:Int)) :
  num 4294967296 (xs.take (i+1))*2^k=num 4294967296 ws+4294967296^(i+k/32)*(x*2^(k%32)):=by
 have ek:k=32*(k/32)+k%32:=by omega
 have e2:(2:Nat)^k=4294967296^(k/32)*2^(k%32):=by rw [qmy,<-Nat.pow_add,<-ek]
 rw [qbh,hxi,Int.toNat_natCast,Nat.add_mul,<-h,e2,Nat.pow_add]
 generalize 4294967296^i=a
 generalize 4294967296^(k/32)=b
 generalize 2^(k%32)=c
 congr 1
 simp only [Nat.mul_left_comm,Nat.mul_comm]
theorem qpu{ws xs:List Int}{i k x p:Nat}(hw:Dig 4294967296 ws)(hx:Dig 4294967296 xs)(hl:i+k/32+1 < ws.length)(h:num 4294967296 ws=num 4294967296 (xs.take i)*2^k)
  (hxi:xs[i]?.getD 0=(x:Int)) (hp:ws[i+k/32]?.getD 0=(p:Int)) :
  p < 2^(k%32)/\ws[i+k/32+1]?.getD 0=0/\p+x*2^(k%32)%4294967296 < 4294967296/\x*2^(k%32)/4294967296 < 4294967296 /\
   Dig 4294967296 ((ws.set (i+k/32) ((p+x*2^(k%32)%4294967296:Nat):Int)).set (i+k/32+1) ((x*2^(k%32)/4294967296:Nat):Int)) /\
   num 4294967296 ((ws.set (i+k/32) ((p+x*2^(k%32)%4294967296:Nat):Int)).set (i+k/32+1) ((x*2^(k%32)/4294967296:Nat):Int))=num 4294967296 (xs.take (i+1))*2^k:=by
 have hx2:x < 4294967296:=by
  obtain⟨d,hd,hlt⟩:=qa3 (by decide) hx i
  rw [hxi] at hd
  rw [Int.ofNat.inj hd]
  exact hlt
 have hr:k%32 < 32:=Nat.mod_lt _ (by decide)
 have hb:=qrd hx h
 have h1:=q09 hw hb hp
 have h2:=q08 hr hw hb
 have h3:=qwv (x:=x) hr h1
 have h4:=qzk hr hx2
 refine⟨h1,h2,h3,h4,qf4 (qf4 hw _ _ h3) _ _ h4,?_⟩
 rw [qww 4294967296 hl hp h2,qtl h hxi,Nat.mod_add_div]
theorem qyc{B:Nat}{cur us vs:List Int}{i c u v d c2:Nat}(hl:i < cur.length)(h:num B (us.take i)+B^i*c=num B (cur.take i)+num B (vs.take i))(hu:us[i]?.getD 0=(u:Int))(hv:vs[i]?.getD 0=(v:Int))(hd:u+B*c2=d+v+c) :
  num B (us.take (i+1))+B^(i+1)*c2=num B ((cur.set i ((d:Nat):Int)).take (i+1))+num B (vs.take (i+1)):=by
 rw [qp6 _ _ _ _ hl,qbh,qbh,hu,hv]
 simp only [Int.toNat_natCast,Nat.pow_succ]
 have e:B^i*u+B^i*B*c2=B^i*d+B^i*v+B^i*c:=by
  rw [Nat.mul_assoc,<-Nat.mul_add,hd,Nat.mul_add,Nat.mul_add]
 omega
theorem qyd{B N:Nat}{cur us vs:List Int}{c:Nat}(hB:0 < B)(hdc:Dig B cur)(hc:cur.length=N)(hu:us.length=N)(hv:vs.length=N)(h:num B (us.take N)+B^N*c=num B (cur.take N)+num B (vs.take N))(hb:num B vs<=num B us):num B cur=num B us-num B vs:=by
 rw [List.take_of_length_le (by omega),List.take_of_length_le (by omega),List.take_of_length_le (by omega)] at h
 rcases Nat.eq_zero_or_pos c with h0|h0
 . subst h0; omega
 have h1:B^N*1<=B^N*c:=Nat.mul_le_mul_left _ h0
 have h2:=qc0 B hB cur hdc
 rw [hc] at h2
 omega
theorem quw{B:Nat}(hB:0 < B){xs ys:List Int}{i:Nat}(hdx:Dig B xs)(heq:xs.drop (i+1)=ys.drop (i+1))(hlt:(xs[i]?.getD 0).toNat < (ys[i]?.getD 0).toNat):num B xs < num B ys:=by
 rw [qtq B xs (i+1),qtq B ys (i+1),heq,qbh,qbh]
 have h1:=qfz hB hdx i
 have h2:B^i*(xs[i]?.getD 0).toNat+B^i<=B^i*(ys[i]?.getD 0).toNat:=by
  rw [<-Nat.mul_succ]
  exact Nat.mul_le_mul_left _ hlt
 omega
theorem q0j{xs ys:List Int}{i:Nat}(hx:i < xs.length)(hy:i < ys.length)(h:xs.drop (i+1)=ys.drop (i+1))(he:xs[i]?.getD 0=ys[i]?.getD 0):xs.drop i=ys.drop i:=by
 rw [List.drop_eq_getElem_cons hx,List.drop_eq_getElem_cons hy,h]
 rw [List.getElem?_eq_getElem hx,List.getElem?_eq_getElem hy] at he
 simp only [Option.getD_some] at he
 rw [he]
def qyv(P low high:Nat):Prop:=(P=0/\low=0/\high=0)∨(0 < high/\2^(high-1)<=P/\P < 2^high/\∃ q,P=2^low*(2*q+1))
theorem qvl:qyv 0 0 0:=.inl ⟨rfl,rfl,rfl⟩
theorem qvm{P low high i x n t:Nat}(h:qyv P low high)(hP:P < 4294967296^i)(hn1:2^(n-1)<=x)(hn2:x < 2^n)(hn:0 < n)(ht:∃ q,x=2^t*(2*q+1)) :
  qyv (P+4294967296^i*x) (if high=0 then 32*i+t else low) (32*i+n):=by
 rw [qmy] at hP ⊢
 have hb:2^(32*i)*x+2^(32*i)<=2^(32*i+n):=by
  rw [Nat.pow_add,<-Nat.mul_succ]
  exact Nat.mul_le_mul_left _ hn2
 have ha:2^(32*i+n-1)<=2^(32*i)*x:=by
  rw [show 32*i+n-1=32*i+(n-1) by omega,Nat.pow_add]
  exact Nat.mul_le_mul_left _ hn1
 refine .inr ⟨by omega,by omega,by omega,?_⟩
 rcases h with ⟨rfl,rfl,rfl⟩|⟨h1,h2,h3,q,h4⟩
 . obtain⟨q,hq⟩:=ht
   refine⟨q,?_⟩
   rw [if_pos rfl,Nat.pow_add,Nat.mul_assoc,<-hq]
   omega
 rw [if_neg (by omega)]
 have hlow:low < 32*i:=by
  have h5:2^low < 2^(32*i):=by
   have:2^low*1<=2^low*(2*q+1):=Nat.mul_le_mul_left _ (by omega)
   omega
  exact (Nat.pow_lt_pow_iff_right (by decide)).1 h5
 refine⟨q+2^(32*i-low-1)*x,?_⟩
 rw [show 32*i=low+1+(32*i-low-1) by omega,Nat.pow_add,Nat.pow_succ,h4]
 rw [show low+1+(32*i-low-1)-low-1=32*i-low-1 by omega]
 generalize 2^(32*i-low-1)=b
 have e:2^low*(2*(q+b*x)+1)=2^low*(2*q+1)+2^low*2*b*x:=by
  rw [show 2*(q+b*x)+1=(2*q+1)+2*b*x by rw [Nat.mul_add,Nat.mul_assoc]; omega,Nat.mul_add]
  congr 1
  simp only [Nat.mul_assoc]
 omega
theorem qx5{s:Bool}{P low high k:Nat}(h:qyv P low high)(h0:high≠0) :
  min low k < high/\P/2^min low k < 2^(high-min low k)/\2^(high-min low k-1)<=P/2^min low k /\
  qa4 s P k=if high-min low k<=1280/\k-min low k<=1024 then (⟨s,P/2^min low k,k-min low k⟩,0) else (Dn.zero,10):=by
 rcases h with ⟨_,_,h⟩|⟨h1,h2,h3,q,h4⟩
 . exact absurd h h0
 have hp:0 < 2^min low k:=Nat.pow_pos (by decide)
 have hlow:low < high:=by
  have h5:2^low < 2^high:=by
   have:2^low*1<=2^low*(2*q+1):=Nat.mul_le_mul_left _ (by omega)
   omega
  exact (Nat.pow_lt_pow_iff_right (by decide)).1 h5
 have hl:min low k < high:=by omega
 have eP:P=(2^(low-min low k)*(2*q+1))*2^min low k:=by
  rw [h4,Nat.mul_comm _ (2^min low k),<-Nat.mul_assoc,<-Nat.pow_add,show min low k+(low-min low k)=low by omega]
 have ed:P/2^min low k=2^(low-min low k)*(2*q+1):=by
  conv=>lhs; rw [eP]
  exact Nat.mul_div_cancel _ hp
 have hst:=qpy k (min low k) (2^(low-min low k)*(2*q+1)) (by omega) (by
  by_cases hk:min low k=k
  . exact .inl hk
  right
  rw [show low-min low k=0 by omega]
  omega)
 rw [<-eP] at hst
 have u1:P/2^min low k < 2^(high-min low k):=Nat.div_lt_of_lt_mul (by rw [<-Nat.pow_add,show min low k+(high-min low k)=high by omega]; exact h3)
 have u2:2^(high-min low k-1)<=P/2^min low k:=(Nat.le_div_iff_mul_le hp).2 (by rw [<-Nat.pow_add,show high-min low k-1+min low k=high-1 by omega]; exact h2)
 refine⟨hl,u1,u2,?_⟩
 have hP0:P≠0:=by
  have:0 < 2^(high-1):=Nat.pow_pos (by decide)
  omega
 unfold qa4
 rw [if_neg hP0,hst,ed]
 simp only
 rw [<-ed]
 have hc:P/2^min low k < qjq↔high-min low k<=1280:=by
  constructor
  . intro h
    rcases Nat.lt_or_ge 1280 (high-min low k) with h6|h6
    . exfalso
      have h7:2^qyi<=2^(high-min low k-1):=Nat.pow_le_pow_right (by decide) (by rw [q0r]; omega)
      rw [qht] at h
      omega
    exact h6
  intro h
  exact qo6 u1 h
 simp only [hc]
def qn5(xs:List Int):Prop:=xs.length<=40/\qn6 xs
def qik(s:Bool)(xs:List Int)(e:Int):Prop:=qn5 xs/\0<=e/\e<=1024/\(xs=[]->e=0/\s=false)/\(xs≠[]->0 < e->xs[0]?.getD 0%2=1)
theorem qoq(l:List Int)(hd:Dig 4294967296 l):((num 4294967296 l%2:Nat):Int)=l[0]?.getD 0%2:=by
 cases l with
 | nil=>rfl
 | cons x l =>
  have:=hd x (by simp)
  simp only [num,List.getElem?_cons_zero,Option.getD_some]
  omega
theorem q0s{k:Nat}(h:32*k=qyi):4294967296^k=qjq:=by rw [qmy,qht,h]
theorem qo7:qjq=4294967296^40:=(q0s rfl).symm
theorem quq{s:Bool}{xs:List Int}{e:Int}(hd:Dig 4294967296 xs)(h:qik s xs e):Dn.May ⟨s,num 4294967296 xs,e.toNat⟩/\qaf 4294967296 (num 4294967296 xs)=xs:=by
 obtain⟨⟨h1,h2⟩,h3,h4,h5,h6⟩:=h
 have hc:=qdx (by decide) hd h2 rfl
 have hz:num 4294967296 xs=0->xs=[]:=fun h0=>by rw [h0,qkx] at hc; exact hc
 have hne:xs=[]->num 4294967296 xs=0:=fun h0=>by rw [h0]; rfl
 refine⟨⟨?_,?_,fun h0=>?_,fun h0=>?_⟩,hc.symm⟩
 . show num 4294967296 xs < qjq
   have:=qc0 4294967296 (by decide) xs hd
   rw [qo7]
   exact Nat.lt_of_lt_of_le this (Nat.pow_le_pow_right (by decide) h1)
 . show e.toNat<=1024
   omega
 . have h7:=h5 (hz h0)
   exact⟨by show e.toNat=0; omega,h7.2⟩
 have h0':0 < e:=by have:0 < e.toNat:=h0; omega
 have h7:xs≠[]:=fun h8=>by have:=(h5 h8).1; omega
 have h8:=h6 h7 h0'
 have h9:=qoq xs hd
 show num 4294967296 xs%2=1
 omega
theorem qgy{d:Dn}(h:d.May):qik d.neg (qaf 4294967296 d.m) d.e:=by
 obtain⟨h1,h2,h3,h4⟩:=h
 obtain⟨c1,c2,c3⟩:=qah 4294967296 d.m (by decide)
 have hl:=qjr (B:=4294967296) (n:=d.m) (k:=40) (by decide) (by rw [<-qo7]; exact h1)
 refine⟨⟨hl,c2⟩,by omega,by omega,fun h0=>?_,fun _ h0=>?_⟩
 . have:=h3 (qc5 (by decide) h0)
   exact⟨by omega,this.2⟩
 have h5:=qoq _ c1
 rw [c3] at h5
 have:=h4 (by omega)
 omega
end Dp
end Go.Proofs.YtmbppgjhdcmckaaGreatDoor
namespace Go.Proofs.YtmbppgjhdcmckaaGreatDoor
namespace Dp
open Dy
theorem q0k(X i:Nat):X/2^i=2*(X/2^(i+1))+X/2^i%2:=by
 rw [Nat.pow_succ,<-Nat.div_div_eq_div_mul]
 omega
theorem ql3{H y d:Nat}(hy:0 < y)(hd:d<=1) :
  (y<=2*(H%y)+d->(2*H+d)%y=2*(H%y)+d-y/\(2*H+d)/y=2*(H/y)+1) /\
  (2*(H%y)+d < y->(2*H+d)%y=2*(H%y)+d/\(2*H+d)/y=2*(H/y)):=by
 have h1:=Nat.div_add_mod H y
 have h2:=Nat.mod_lt H hy
 generalize H%y=r at *
 generalize H/y=q at *
 have m:y*(2*q)=2*(y*q):=Nat.mul_left_comm ..
 constructor
 . intro h
   have e:2*H+d=(2*r+d-y)+y*(2*q+1):=by
    rw [Nat.mul_add,Nat.mul_one,m]
    omega
   rw [e,Nat.add_mul_mod_self_left,Nat.add_mul_div_left _ _ hy,Nat.mod_eq_of_lt (by omega),Nat.div_eq_of_lt (by omega)]
   exact⟨rfl,by omega⟩
 intro h
 have e:2*H+d=(2*r+d)+y*(2*q):=by
  rw [m]
  omega
 rw [e,Nat.add_mul_mod_self_left,Nat.add_mul_div_left _ _ hy,Nat.mod_eq_of_lt h,Nat.div_eq_of_lt h]
 exact⟨rfl,by omega⟩
theorem quv{l:List Int}(hd:Dig 4294967296 l){j p:Nat}(hp:l[j]?.getD 0=(p:Int)):num 4294967296 l/4294967296^j%4294967296=p:=by
 have hs:=qd5 4294967296 l j
 have hlt:=qfz (B:=4294967296) (by decide) hd j
 have h0:0 < 4294967296^j:=Nat.pow_pos (by decide)
 rw [hs,Nat.add_mul_div_left _ _ h0,Nat.div_eq_of_lt hlt,Nat.zero_add]
 have hp2:p < 4294967296:=by
  obtain⟨d,h1,h2⟩:=qa3 (by decide) hd j
  omega
 cases hdr:l.drop j with
 | nil =>
  have:l[j]?.getD 0=0:=by
   rw [List.getElem?_eq_none (by have:=congrArg List.length hdr; simp at this; omega)]
   rfl
  have hp0:p=0:=by omega
  rw [hp0]
  rfl
 | cons a t =>
  have ha:l[j]? = some a:=by
   have:=congrArg (fun k=>k[0]?) hdr
   simpa using this
  have hap:a.toNat=p:=by
   rw [ha] at hp
   simp only [Option.getD_some] at hp
   omega
  simp only [num,hap]
  omega
theorem qzy{qs:List Int}{i d p Q:Nat}(hd:Dig 4294967296 qs)(hl:i/32 < qs.length)(hm:num 4294967296 qs=2^(i+1)*Q)(hd1:d<=1)(hp:qs[i/32]?.getD 0=(p:Int)) :
  p%2^(i%32+1)=0/\p+d*2^(i%32) < 4294967296/\Dig 4294967296 (qs.set (i/32) ((p+d*2^(i%32):Nat):Int))/\num 4294967296 (qs.set (i/32) ((p+d*2^(i%32):Nat):Int))=2^i*(2*Q+d):=by
 have h1:=quv hd hp
 have e0:4294967296^(i/32)=2^(32*(i/32)):=by rw [Nat.pow_mul]
 have hi:i=32*(i/32)+i%32:=(Nat.div_add_mod i 32).symm
 have hr:i%32 < 32:=Nat.mod_lt _ (by decide)
 have e1:2^(i+1)=2^(32*(i/32))*2^(i%32+1):=by
  rw [<-Nat.pow_add]
  congr 1
  omega
 have e2:2^i=2^(32*(i/32))*2^(i%32):=by
  rw [<-Nat.pow_add]
  congr 1
 have hb:(4294967296:Nat)=2^(i%32+1)*2^(31-i%32):=by
  rw [<-Nat.pow_add,show i%32+1+(31-i%32)=32 by omega]
 have hpm:p%2^(i%32+1)=0:=by
  rw [<-h1,hm,e0,e1,Nat.mul_assoc,Nat.mul_div_cancel_left _ (Nat.pow_pos (by decide))]
  conv=>lhs; lhs; rw [hb]
  rw [Nat.mul_mod_mul_left]
  exact Nat.mul_mod_right _ _
 have hp2:p < 4294967296:=by
  obtain⟨d',h1,h2⟩:=qa3 (by decide) hd (i/32)
  omega
 have hpl:p+2^(i%32+1)<=4294967296:=by
  obtain⟨c,hc⟩:∃ c,p=2^(i%32+1)*c:=⟨p/2^(i%32+1),by have:=Nat.div_add_mod p (2^(i%32+1)); omega⟩
  have hc2:c < 2^(31-i%32):=by
   refine Nat.lt_of_mul_lt_mul_left (a:=2^(i%32+1)) ?_
   rw [<-hc,<-hb]
   exact hp2
  calc p+2^(i%32+1)=2^(i%32+1)*(c+1):=by rw [hc,Nat.mul_succ]
   _<=2^(i%32+1)*2^(31-i%32):=Nat.mul_le_mul_left _ hc2
   _=4294967296:=hb.symm
 have hps:2^(i%32+1)=2*2^(i%32):=by rw [Nat.pow_succ]; omega
 have hpos:0 < 2^(i%32):=Nat.pow_pos (by decide)
 have hlt:p+d*2^(i%32) < 4294967296:=by
  have:d*2^(i%32)<=1*2^(i%32):=Nat.mul_le_mul_right _ hd1
  omega
 refine⟨hpm,hlt,qf4 hd _ _ hlt,?_⟩
 have hs:=qhd 4294967296 qs (i/32) ((p+d*2^(i%32):Nat):Int) hl
 rw [hp,Int.toNat_natCast,Int.toNat_natCast,hm,Nat.mul_add] at hs
 have e3:2^i*(2*Q+d)=2^(i+1)*Q+4294967296^(i/32)*(d*2^(i%32)):=by
  rw [Nat.mul_add,<-Nat.mul_assoc,<-Nat.pow_succ,e0,e2,Nat.mul_assoc,Nat.mul_comm d]
 rw [e3]
 omega
theorem qw4{xs ys:List Int}{i c d x:Nat}(hx:xs[i]?.getD 0=(x:Int))(hx2:x < 4294967296)(hc:c<=1)(h:num 4294967296 (ys.take i)+4294967296^i*c=2*num 4294967296 (xs.take i)+d)(hl:i < ys.length) :
  2*x%4294967296+c < 4294967296/\x/2147483648<=1/\num 4294967296 ((ys.set i ((2*x%4294967296+c:Nat):Int)).take (i+1))+4294967296^(i+1)*(x/2147483648)=2*num 4294967296 (xs.take (i+1))+d:=by
 refine⟨by omega,by omega,?_⟩
 obtain⟨v,hv⟩:∃ v,2*x%4294967296+c=v:=⟨_,rfl⟩
 obtain⟨t,ht⟩:∃ t,x/2147483648=t:=⟨_,rfl⟩
 rw [hv,ht,qp6 _ _ _ _ hl,Int.toNat_natCast,qdt,hx,Int.toNat_natCast,Nat.pow_succ]
 generalize 4294967296^i=b at *
 have e:b*v+b*4294967296*t=b*c+2*(b*x):=by
  rw [Nat.mul_assoc,<-Nat.mul_add,Nat.mul_left_comm 2 b x,<-Nat.mul_add]
  congr 1
  omega
 rw [Nat.mul_add 2]
 omega
def qj4(N n:Nat):Prop:=(N=0/\n=0)∨(0 < n/\2^(n-1)<=N/\N < 2^n)
theorem qj4.uniq{N a b:Nat}(h:qj4 N a)(k:qj4 N b):a=b:=by
 rcases h with ⟨h1,h2⟩|⟨h1,h2,h3⟩<;>rcases k with ⟨k1,k2⟩|⟨k1,k2,k3⟩
 . omega
 . have:=Nat.pow_pos (n:=b-1) (show 0 < 2 by decide)
   omega
 . have:=Nat.pow_pos (n:=a-1) (show 0 < 2 by decide)
   omega
 rcases Nat.lt_trichotomy a b with h|h|h
 . have:=Nat.pow_le_pow_right (show 0 < 2 by decide) (show a<=b-1 by omega)
   omega
 . exact h
 have:=Nat.pow_le_pow_right (show 0 < 2 by decide) (show b<=a-1 by omega)
 omega
theorem ql2(B:Nat){l:List Int}{k:Nat}(hk:k < l.length):num B (l.drop k)=(l[k]?.getD 0).toNat+B*num B (l.drop (k+1)):=by
 rw [List.drop_eq_getElem_cons hk]
 simp [num,List.getElem?_eq_getElem hk]
theorem q0d{l:List Int}{k x n:Nat}(hd:Dig 4294967296 l)(hk:k < l.length)(h0:num 4294967296 (l.drop (k+1))=0)(hx:l[k]?.getD 0=(x:Int))(h1:0 < n)(h2:2^(n-1)<=x)(h3:x < 2^n):qj4 (num 4294967296 l) (32*k+n):=by
 have hs:=qd5 4294967296 l k
 have hl:=qfz (B:=4294967296) (by decide) hd k
 rw [ql2 _ hk,h0,hx,Int.toNat_natCast,Nat.mul_zero,Nat.add_zero] at hs
 have e:(4294967296:Nat)^k=2^(32*k):=by rw [Nat.pow_mul]
 rw [e] at hs hl
 refine .inr ⟨by omega,?_,?_⟩
 . have e2:2^(32*k+n-1)=2^(32*k)*2^(n-1):=by
     rw [<-Nat.pow_add]
     congr 1
     omega
   have:=Nat.mul_le_mul_left (2^(32*k)) h2
   omega
 have e2:2^(32*k+n)=2^(32*k)*2^n:=Nat.pow_add ..
 have:=Nat.mul_le_mul_left (2^(32*k)) (show x+1<=2^n from h3)
 rw [Nat.mul_succ] at this
 omega
theorem qxx{l:List Int}{k x:Nat}(hk:k < l.length)(h0:num 4294967296 (l.drop (k+1))=0)(hx:l[k]?.getD 0=(x:Int))(hx0:x=0):num 4294967296 (l.drop k)=0:=by
 rw [ql2 _ hk,h0,hx,hx0]
 rfl
theorem qxo{ws:List Int}{i x:Nat}(hl:i < ws.length)(hx:ws[i]?.getD 0=(x:Int))(v:Nat)(hv:num 4294967296 ws+4294967296^i=v) :
  (x+1 < 4294967296->num 4294967296 (ws.set i ((x+1:Nat):Int))=v)/\(x+1=4294967296->num 4294967296 (ws.set i (0:Int))+4294967296^(i+1)=v):=by
 constructor
 . intro h
   have hs:=qhd 4294967296 ws i ((x+1:Nat):Int) hl
   rw [hx,Int.toNat_natCast,Int.toNat_natCast,Nat.mul_succ] at hs
   omega
 intro h
 have hs:=qhd 4294967296 ws i (0:Int) hl
 rw [hx,Int.toNat_natCast] at hs
 have e:4294967296^(i+1)=4294967296^i*x+4294967296^i:=by rw [Nat.pow_succ,<-h,Nat.mul_succ]
 simp only [Int.toNat_zero,Nat.mul_zero,Nat.add_zero] at hs
 omega
def qew(a b:Dn)(k:Nat):Nat×Nat:=(a.m*2^(b.e+k)/(b.m*2^a.e),a.m*2^(b.e+k)%(b.m*2^a.e))
def toD(a b:Dn)(k:Nat)(away:Bool):Dn×Int:=qa4 a.neg ((qew a b k).1+if (qew a b k).2≠0/\away=true then 1 else 0) k
def qlp(a b:Dn):Dn×Int :=
 qa4 a.neg ((qew a b 1).1/2+if (qew a b 1).1%2=1/\(a.neg=false∨(qew a b 1).2≠0) then 1 else 0) 0
theorem qmv(X y t:Nat):X*2^t/(y*2^t)=X/y/\(X*2^t%(y*2^t)=0↔X%y=0):=by
 refine⟨Nat.mul_div_mul_right _ _ (Nat.pow_pos (by decide)),?_⟩
 rw [Nat.mul_mod_mul_right]
 have:0 < 2^t:=Nat.pow_pos (by decide)
 constructor
 . intro h
   exact (Nat.mul_eq_zero.1 h).resolve_right (by omega)
 intro h
 rw [h,Nat.zero_mul]
end Dp
end Go.Proofs.YtmbppgjhdcmckaaGreatDoor
namespace Go.Proofs.YtmbppgjhdcmckaaGreatDoor
open Go.RowKit
namespace Dy
theorem qzv{k l:IntKind}{a b c d:Int}(h:a=c)(h':b=d):Ending.returned (.tuple #[.int k a,.int l b])=.returned (.tuple #[.int k c,.int l d]):=by rw [h,h']
theorem qtm(a b:Nat):(a &&& b)/2147483648=(a/2147483648) &&& (b/2147483648):=by
 have:=Nat.shiftRight_and_distrib (a:=a) (b:=b) (i:=31)
 simpa [Nat.shiftRight_eq_div_pow] using this
theorem q1a(a b:Nat):(a ||| b)/2147483648=(a/2147483648) ||| (b/2147483648):=by
 have:=Nat.shiftRight_or_distrib (a:=a) (b:=b) (i:=31)
 simpa [Nat.shiftRight_eq_div_pow] using this
theorem qob(a b:Nat):(a ^^^ b)/2147483648=(a/2147483648) ^^^ (b/2147483648):=by
 have:=Nat.shiftRight_xor_distrib (a:=a) (b:=b) (i:=31)
 simpa [Nat.shiftRight_eq_div_pow] using this
theorem qs2(x y d c b:Nat)(hx:x < 4294967296)(hy:y < 4294967296)(hd:d < 4294967296)(hc:c<=1)(hb:b<=1)(h:x+4294967296*b=d+y+c) :
  (((4294967295 ^^^ x) &&& y) ||| ((4294967295 ^^^ (x ^^^ y)) &&& d))/2147483648=b:=by
 have ex:x/2147483648=0∨x/2147483648=1:=by omega
 have ey:y/2147483648=0∨y/2147483648=1:=by omega
 have ed:d/2147483648=0∨d/2147483648=1:=by omega
 rw [q1a,qtm,qtm,qob,qob,qob]
 rcases ex with ex|ex<;>rcases ey with ey|ey<;>rcases ed with ed|ed<;>rw [ex,ey,ed]<;>simp<;>omega
theorem qer{a b:Nat}(ha:a < 4294967296)(hb:b < 4294967296):a &&& b < 4294967296/\a ||| b < 4294967296/\a ^^^ b < 4294967296 :=
 ⟨Nat.and_lt_two_pow (n:=32) _ hb,Nat.or_lt_two_pow (n:=32) ha hb,Nat.xor_lt_two_pow (n:=32) ha hb⟩
theorem qzm:IntKind.u32.max=((4294967295:Nat):Int):=by decide
theorem qpe(x y d c b:Nat)(hx:x < 4294967296)(hy:y < 4294967296)(hd:d < 4294967296)(hc:c<=1)(hb:b<=1)(h:x+4294967296*b=d+y+c) :
  bits .or .u32 (bits .and .u32 (bits .xor .u32 IntKind.u32.max (x:Int)) (y:Int)) (bits .and .u32 (bits .xor .u32 IntKind.u32.max (bits .xor .u32 (x:Int) (y:Int))) (((x:Int)-y-c)%4294967296))/2147483648=(b:Int):=by
 have e1:((x:Int)-y-c)%4294967296=(d:Int):=by omega
 have h4:(4294967295:Nat) < 4294967296:=by decide
 rw [e1,qzm,u32_xor_nat _ _ h4 hx,u32_xor_nat _ _ hx hy,u32_xor_nat _ _ h4 (qer hx hy).2.2,u32_and_nat _ _ (qer h4 hx).2.2 hy,u32_and_nat _ _ (qer h4 (qer hx hy).2.2).2.2 hd,
  u32_or_nat _ _ (qer (qer h4 hx).2.2 hy).1 (qer (qer h4 (qer hx hy).2.2).2.2 hd).1]
 have:=qs2 x y d c b hx hy hd hc hb h
 omega
theorem qwh(w:World)(x y c d b:Nat)(hx:x < 4294967296)(hy:y < 4294967296)(hd:d < 4294967296)(hc:c<=1)(hb:b<=1)(h:x+4294967296*b=d+y+c) :
  Calls Tryz.prog 209 #[.int .u32 x,.int .u32 y,.int .u32 c] w fun e w'=>e=.returned (.tuple #[.int .u32 d,.int .u32 b])/\w'=w:=by
 have H:=Lib.hid (qpe x y d c b hx hy hd hc hb h)
 have HD:=Lib.hid h
 clear h
 go_enter Tryz.func209,Tryz.ntmps209
 go_wp2
 go_ret2
 exact⟨qzv (by have:=HD.out; omega) H.out,rfl⟩
theorem qpw:(Lib.len8tab.size:Int)=256:=by decide +kernel
theorem q1c:∀ n:Fin 256,(Lib.len8tab[n.val]'(by have h:Lib.len8tab.size=256:=(by decide +kernel); omega)).toNat=Lib.bitLen n.val:=by decide +kernel
theorem qzq(z:Int)(h0:0<=z)(h1:z < 256)(h:z.toNat < Lib.len8tab.size):(Lib.len8tab[z.toNat]'h).toNat=Lib.bitLen z.toNat:=q1c ⟨z.toNat,by omega⟩
theorem qim(z k:Int)(h0:0<=z)(h1:z < 256)(k0:0<=k)(k1:k<=24)(h:z.toNat < Lib.len8tab.size):wrap64 (k+wrap64 ((Lib.len8tab[z.toNat]'h).toNat:Int))=k+(Lib.bitLen z.toNat:Int):=by
 rw [qzq z h0 h1 h]
 have:=Lib.bitLen_le8' z h0 (by omega)
 unfold wrap64
 omega
theorem qj3(w:World)(x:Int)(h0:0<=x)(h1:x<=4294967295) :
  Calls Tryz.prog 179 #[.int .u32 x] w fun e w'=>e=.returned (.int .i64 (Lib.bitLen x.toNat))/\w'=w:=by
 have hs:=qpw
 by_cases c1:65536<=x
 . by_cases c2:16777216<=x
   . have d1:256<=x/65536:=by omega
     have d2:x/65536/256<=255:=by omega
     have d3:x/65536/256 < (Lib.len8tab.size:Int):=by omega
     have hb:Hid ((Lib.bitLen x.toNat:Int)=24+(Lib.bitLen (x/65536/256).toNat:Int)):=by
      have s:=Lib.bitLen_shift24 x.toNat (by omega) (by omega)
      have e:(x/65536/256).toNat=x.toNat/16777216:=by omega
      rw [Hid,e]
      omega
     clear hs
     go_enter Tryz.func179,Tryz.ntmps179
     go_wp2
     go_ret
     exact⟨qcb (by rw [hb.out]; exact qim _ 24 (by omega) (by omega) (by omega) (by omega) _),rfl⟩
   have d1:x/65536 < 256:=by omega
   have d2:0<=x/65536:=by omega
   have d3:x/65536 < (Lib.len8tab.size:Int):=by omega
   have hb:Hid ((Lib.bitLen x.toNat:Int)=16+(Lib.bitLen (x/65536).toNat:Int)):=by
    have s:=Lib.bitLen_shift16 x.toNat (by omega) (by omega)
    have e:(x/65536).toNat=x.toNat/65536:=by omega
    rw [Hid,e]
    omega
   clear hs
   go_enter Tryz.func179,Tryz.ntmps179
   go_wp2
   go_ret
   exact⟨qcb (by rw [hb.out]; exact qim _ 16 (by omega) (by omega) (by omega) (by omega) _),rfl⟩
 by_cases c2:256<=x
 . have d1:x/256 < 256:=by omega
   have d2:0<=x/256:=by omega
   have d3:x/256 < (Lib.len8tab.size:Int):=by omega
   have hb:Hid ((Lib.bitLen x.toNat:Int)=8+(Lib.bitLen (x/256).toNat:Int)):=by
    have s:=Lib.bitLen_shift8 x.toNat (by omega) (by omega)
    have e:(x/256).toNat=x.toNat/256:=by omega
    rw [Hid,e]
    omega
   clear hs
   go_enter Tryz.func179,Tryz.ntmps179
   go_wp2
   go_ret
   exact⟨qcb (by rw [hb.out]; exact qim _ 8 (by omega) (by omega) (by omega) (by omega) _),rfl⟩
 have d1:x < 256:=by omega
 have d3:x < (Lib.len8tab.size:Int):=by omega
 clear hs
 go_enter Tryz.func179,Tryz.ntmps179
 go_wp2
 go_ret
 exact⟨qcb (by
  have:=qim x 0 h0 d1 (by omega) (by omega) (by have:=qpw; omega)
  rw [Int.zero_add,Int.zero_add] at this
  rw [this]),rfl⟩
theorem qux:∀ (f x:Nat),x≠0->x < 2^f->0 < Lib.bitLenAux f x/\2^(Lib.bitLenAux f x-1)<=x/\x < 2^Lib.bitLenAux f x/\Lib.bitLenAux f x<=f
 | 0,x,h0,h=>by
  have:x < 1:=h
  omega
 | f+1,x,h0,h=>by
  have e:Lib.bitLenAux (f+1) x=1+Lib.bitLenAux f (x/2):=by simp [Lib.bitLenAux,h0]
  rw [e]
  by_cases h1:x/2=0
  . have e1:Lib.bitLenAux f (x/2)=0:=by rw [h1]; cases f<;>simp [Lib.bitLenAux]
    rw [e1]
    exact⟨by omega,by simpa using (show 1<=x by omega),by simpa using (show x < 2 by omega),by omega⟩
  obtain⟨i1,i2,i3,i4⟩:=qux f (x/2) h1 (by rw [Nat.pow_succ] at h; omega)
  generalize Lib.bitLenAux f (x/2)=n at *
  refine⟨by omega,?_,?_,by omega⟩
  . have e2:2^(1+n-1)=2^(n-1)*2:=by rw [<-Nat.pow_succ,show 1+n-1=n-1+1 by omega]
    omega
  rw [Nat.add_comm,Nat.pow_succ]
  omega
theorem qhq(x:Nat)(h0:x≠0)(h:x < 4294967296):0 < Lib.bitLen x/\2^(Lib.bitLen x-1)<=x/\x < 2^Lib.bitLen x/\Lib.bitLen x<=32:=by
 have e:Lib.bitLen x=Lib.bitLenAux 32 x:=Lib.bitLenAux_fuel 32 x h 64 (by decide)
 rw [e]
 exact qux 32 x h0 h
theorem qml(x:Nat)(h0:x≠0)(h:x < 4294967296):(∃ q,x=2^Lib.ctz 32 x*(2*q+1))/\Lib.ctz 32 x < 32:=by
 have e:Lib.ctz 32 x=Lib.ctzFrom 32 x:=by simp [Lib.ctz,h0]
 rw [e]
 obtain⟨m,h1,h2⟩:=Lib.ctzFrom_spec 32 x (by omega) h
 exact⟨⟨m,h1⟩,h2⟩
theorem qwg(w:World)(x k idx:Nat)(hx0:((x:Int)==0)=false)(key:bits BinOp.and IntKind.u32 (x:Int) (-(x:Int)%4294967296)*125613361%4294967296/134217728=(idx:Int))
  (hi:idx < 32) (hk:k < 32) (hcell:w.cell? ⟨0,idx,none⟩=some (.int .u8 k)) :
  Calls Tryz.prog 178 #[.int .u32 x] w fun e w'=>e=.returned (.int .i64 k)/\w'=w:=by
 go_enter Tryz.func178,Tryz.ntmps178
 go_wp2_with (simp only [key])
 go_ret
 exact⟨rfl,rfl⟩
theorem qyo(w:World)(x:Nat)(hx:x < 4294967296)(hx0:x≠0)(hT:TabAt 0 Lib.deBruijn32tab w) :
  Calls Tryz.prog 178 #[.int .u32 x] w fun e w'=>e=.returned (.int .i64 (Lib.ctz 32 x))/\w'=w:=by
 obtain⟨hlow,hk⟩:=Lib.lowest_bit 32 x hx0 hx
 obtain⟨hi,htab⟩:=Lib.deBruijn32_at _ hk
 have hcell:=hT _ hi
 rw [htab] at hcell
 exact qwg w x _ _ (by simp; omega) (tz32_key x _ hx hx0 hlow) hi hk hcell
end Dy
end Go.Proofs.YtmbppgjhdcmckaaGreatDoor
namespace Go.Proofs.YtmbppgjhdcmckaaGreatDoor
open Go.RowKit
namespace Dy
open Dp
theorem qg0{l:List Int}{n:Nat}(hl:l.length=n)(hn:0 < n):qn6 l↔l[n-1]?.getD 0≠0:=by
 have hne:l≠[]:=fun e=>by rw [e] at hl; simp at hl; omega
 have e:l[n-1]?.getD 0=l.getLast hne:=by
  rw [List.getLast_eq_getElem,List.getElem?_eq_getElem (by omega)]
  simp only [Option.getD_some]
  congr 1
  omega
 rw [e]
 exact⟨fun h=>h hne,fun h _=>h⟩
theorem qbt(w:World)(lo hi:Nat)(A:Option Addr)(n c:Nat)(xs:List Int)(hX:qae w lo hi .u32 A n xs)(h:qn5 xs) :
  Calls Tryz.prog 176 #[.slice A n c] w fun e w'=>e=.returned (.int .i64 0)/\w'=w:=by
 have hL:=Lib.hid hX.len
 have h40:n<=40:=by have:=h.1; have:=hL.out; omega
 by_cases h0:0 < n
 . have hlast:=(qg0 hX.len h0).1 h.2
   obtain⟨b,off,rfl,hcell⟩:=get hX h0
   have g1:w.cell? ⟨b,off+(n-1),none⟩=some (.int .u32 (xs[n-1]?.getD 0)):=hcell (n-1) (by omega)
   have hb:(xs[n-1]?.getD 0==0)=false:=by simpa using hlast
   have e1:((n:Int)-1).toNat=n-1:=by omega
   clear hcell hlast h
   generalize xs[n-1]?.getD 0=v at g1 hb
   go_enter Tryz.func176,Tryz.ntmps176
   go_wp2
   go_ret
   exact⟨rfl,rfl⟩
 obtain rfl:n=0:=by omega
 clear h
 go_enter Tryz.func176,Tryz.ntmps176
 go_wp2
 go_ret
 exact⟨rfl,rfl⟩
theorem qlt(w:World)(lo hi:Nat)(A:Option Addr)(n c:Nat)(xs:List Int)(hX:qae w lo hi .u32 A n xs)(h:¬ qn5 xs) :
  Calls Tryz.prog 176 #[.slice A n c] w fun e w'=>e=.returned (.int .i64 8)/\w'=w:=by
 have hL:=Lib.hid hX.len
 have hbig:=hX.big
 by_cases h40:n<=40
 . have h0:0 < n:=by
     rcases Nat.eq_zero_or_pos n with h0|h0
     . exact absurd ⟨by have:=hL.out; omega,fun hne=>absurd (hX.zero h0) hne⟩ h
     exact h0
   have hlast:xs[n-1]?.getD 0=0:=by
    by_cases hl:xs[n-1]?.getD 0=0
    . exact hl
    exact absurd ⟨by have:=hL.out; omega,(qg0 hX.len h0).2 hl⟩ h
   obtain⟨b,off,rfl,hcell⟩:=get hX h0
   have g1:w.cell? ⟨b,off+(n-1),none⟩=some (.int .u32 (xs[n-1]?.getD 0)):=hcell (n-1) (by omega)
   rw [hlast] at g1
   have e1:((n:Int)-1).toNat=n-1:=by omega
   clear hcell hlast h
   go_enter Tryz.func176,Tryz.ntmps176
   go_wp2
   go_ret
   exact⟨rfl,rfl⟩
 clear h
 go_enter Tryz.func176,Tryz.ntmps176
 go_wp2
 go_ret
 exact⟨rfl,rfl⟩
theorem qmf(w:World)(lo hi:Nat)(s:Bool)(A:Option Addr)(n c:Nat)(xs:List Int)(ex:Int)(hX:qae w lo hi .u32 A n xs)(hhi:hi<=w.heap.size)(h:qik s xs ex) :
  Calls Tryz.prog 137 #[.agg #[.bool s,.slice A n c,.int .i64 ex]] w fun e w'=>e=.returned (.int .i64 0)/\Below w.heap.size w w':=by
 have hL:=Lib.hid hX.len
 have hX2:=hX.alloc hhi (.cells #[.bool s,.slice A n c,.int .i64 ex] 24)
 have hB:=(Below.refl w.heap.size w).alloc (Nat.le_refl _) (.cells #[.bool s,.slice A n c,.int .i64 ex] 24)
 obtain⟨hmay,he0,he1,hz,ho⟩:=h
 by_cases h0:0 < n
 . have hne:xs≠[]:=fun e=>by have:=hL.out; rw [e] at this; simp at this; omega
   obtain⟨b,off,rfl,hcell⟩:=get hX2 h0
   have g1:=hcell 0 h0
   rw [Nat.add_zero] at g1
   have ho':=ho hne
   have hn0:((n:Int)==0)=false:=by simp; omega
   obtain⟨v0,v1⟩:=hX.u32 0
   clear hcell hz ho
   generalize xs[0]?.getD 0=v at g1 ho' v0 v1
   by_cases hpos:0 < ex
   . have hv:=ho' hpos
     have hv2:v%2=1:=hv
     clear ho' hv hne
     go_enter Tryz.func137,Tryz.ntmps137
     go_wp2_with fail
     refine (qbt _ _ _ _ _ _ _ hX2 hmay).mono ?_
     rintro e w1 ⟨rfl,rfl⟩
     clear hmay
     go_wp2
     go_ret
     exact⟨rfl,hB⟩
   obtain rfl:ex=0:=by omega
   clear ho' hne he0 he1
   go_enter Tryz.func137,Tryz.ntmps137
   go_wp2_with fail
   refine (qbt _ _ _ _ _ _ _ hX2 hmay).mono ?_
   rintro e w1 ⟨rfl,rfl⟩
   clear hmay
   go_wp2
   go_ret
   exact⟨rfl,hB⟩
 obtain rfl:n=0:=by omega
 obtain⟨rfl,rfl⟩:=hz (hX.zero rfl)
 clear ho he0 he1
 go_enter Tryz.func137,Tryz.ntmps137
 go_wp2_with fail
 refine (qbt _ _ _ _ _ _ _ hX2 hmay).mono ?_
 rintro e w1 ⟨rfl,rfl⟩
 clear hmay
 go_wp2
 go_ret
 exact⟨rfl,hB⟩
theorem quj{s:Bool}{xs:List Int}{e:Int}(h:¬ qik s xs e):¬ qn5 xs∨(qn5 xs/\(e < 0∨1024 < e))∨(qn5 xs/\0<=e/\e<=1024/\xs=[]/\(e≠0∨s=true))∨(qn5 xs/\0 < e/\e<=1024/\xs≠[]/\xs[0]?.getD 0%2≠1):=by
 by_cases h1:qn5 xs
 . by_cases h2:e < 0∨1024 < e
   . exact .inr (.inl ⟨h1,h2⟩)
   by_cases h3:xs=[]
   . refine .inr (.inr (.inl ⟨h1,by omega,by omega,h3,?_⟩))
     by_cases h4:e=0
     . right
       cases s
       . exact absurd ⟨h1,by omega,by omega,fun _=>⟨h4,rfl⟩,fun hne=>absurd h3 hne⟩ h
       rfl
     exact .inl h4
   by_cases h4:0 < e/\xs[0]?.getD 0%2≠1
   . exact .inr (.inr (.inr ⟨h1,h4.1,by omega,h3,h4.2⟩))
   exact absurd ⟨h1,by omega,by omega,fun h5=>absurd h5 h3,fun _ h5=>by omega⟩ h
 exact .inl h1
theorem qj7(w:World)(lo hi:Nat)(s:Bool)(A:Option Addr)(n c:Nat)(xs:List Int)(ex:Int)(hX:qae w lo hi .u32 A n xs)(hhi:hi<=w.heap.size)(h:¬ qik s xs ex) :
  Calls Tryz.prog 137 #[.agg #[.bool s,.slice A n c,.int .i64 ex]] w fun e w'=>e=.returned (.int .i64 8)/\Below w.heap.size w w':=by
 have hL:=Lib.hid hX.len
 have hX2:=hX.alloc hhi (.cells #[.bool s,.slice A n c,.int .i64 ex] 24)
 have hB:=(Below.refl w.heap.size w).alloc (Nat.le_refl _) (.cells #[.bool s,.slice A n c,.int .i64 ex] 24)
 have hbig:=hX.big
 rcases quj h with hm|⟨hm,hx⟩|⟨hm,h0,h1,hz,hx⟩|⟨hm,h0,h1,hz,hx⟩
 . clear h
   go_enter Tryz.func137,Tryz.ntmps137
   go_wp2_with fail
   refine (qlt _ _ _ _ _ _ _ hX2 hm).mono ?_
   rintro e w1 ⟨rfl,rfl⟩
   clear hm
   by_cases hn0:n=0
   . subst hn0
     go_wp2
     go_ret
     exact⟨rfl,hB⟩
   have hn1:((n:Int)==0)=false:=by simp; omega
   go_wp2
   go_ret
   exact⟨rfl,hB⟩
 . clear h
   have hn1:n≠0->((n:Int)==0)=false:=fun h=>by simp; omega
   rcases hx with hx|hx
   all_goals
    by_cases hn0:n=0
    . subst hn0
      clear hn1
      go_enter Tryz.func137,Tryz.ntmps137
      go_wp2_with fail
      refine (qbt _ _ _ _ _ _ _ hX2 hm).mono ?_
      rintro e w1 ⟨rfl,rfl⟩
      clear hm
      go_wp2
      go_ret
      exact⟨rfl,hB⟩
    have hn2:=hn1 hn0
    clear hn1
    go_enter Tryz.func137,Tryz.ntmps137
    go_wp2_with fail
    refine (qbt _ _ _ _ _ _ _ hX2 hm).mono ?_
    rintro e w1 ⟨rfl,rfl⟩
    clear hm
    go_wp2
    go_ret
    exact⟨rfl,hB⟩
 . clear h
   subst hz
   obtain rfl:n=0:=by have:=hL.out; simp at this; omega
   by_cases hx0:ex=0
   . subst hx0
     obtain rfl:s=true:=hx.resolve_left (fun h=>h rfl)
     clear hx
     go_enter Tryz.func137,Tryz.ntmps137
     go_wp2_with fail
     refine (qbt _ _ _ _ _ _ _ hX2 hm).mono ?_
     rintro e w1 ⟨rfl,rfl⟩
     clear hm
     go_wp2
     go_ret
     exact⟨rfl,hB⟩
   have hx1:(ex != 0)=true:=by simpa using hx0
   clear hx
   go_enter Tryz.func137,Tryz.ntmps137
   go_wp2_with fail
   refine (qbt _ _ _ _ _ _ _ hX2 hm).mono ?_
   rintro e w1 ⟨rfl,rfl⟩
   clear hm
   go_wp2
   go_ret
   exact⟨rfl,hB⟩
 clear h
 have hn0:0 < n:=by
  rcases Nat.eq_zero_or_pos n with h0|h0
  . exact absurd (hX.zero h0) hz
  exact h0
 obtain⟨b,off,rfl,hcell⟩:=get hX2 hn0
 have g1:=hcell 0 hn0
 rw [Nat.add_zero] at g1
 have hn1:((n:Int)==0)=false:=by simp; omega
 obtain⟨v0,v1⟩:=hX.u32 0
 clear hcell hz
 generalize xs[0]?.getD 0=v at g1 hx v0 v1
 have hv:v%2=0:=by omega
 clear hx
 go_enter Tryz.func137,Tryz.ntmps137
 go_wp2_with fail
 refine (qbt _ _ _ _ _ _ _ hX2 hm).mono ?_
 rintro e w1 ⟨rfl,rfl⟩
 clear hm
 go_wp2
 go_ret
 exact⟨rfl,hB⟩
def qat(ws:List Int):Array Value:=(ws.map (Value.int .u32)).toArray
theorem qau(ws:List Int):(qat ws).size=ws.length:=by simp [qat]
theorem qeh(ws:List Int){j:Nat}(h:j < ws.length):(qat ws)[j]? = some (.int .u32 (ws[j]?.getD 0)):=by
 simp [qat,List.getElem?_eq_getElem h]
theorem qin(ws:List Int)(j:Nat)(v:Int):(qat ws).setIfInBounds j (.int .u32 v)=qat (ws.set j v):=by
 simp [qat,List.map_set]
theorem qde(ws:List Int):(qat ws).all (·.oneCell')=true:=by
 simp [qat,Value.oneCell']
structure qzf(w:World)(g:Nat)(ws:List Int):Prop where
 blk:w.heap[g]? = some (.cells (qat ws) 166 (0,0))
 len:ws.length=74
 dig:Dig 4294967296 ws
theorem qzf.cell{w:World}{g:Nat}{ws:List Int}(h:qzf w g ws){j:Nat}(hj:j < 74):w.cell? ⟨g,j,none⟩=some (.int .u32 (ws[j]?.getD 0)):=by
 rw [cell_of_row w g j _ _ _ h.blk]
 exact qeh ws (by rw [h.len]; exact hj)
theorem qzf.free{w:World}{g:Nat}{ws:List Int}(h:qzf w g ws)(j:Nat):w.frozen? ⟨g,j,none⟩=false:=frozen_of_row w g j _ _ h.blk
theorem qzf.set{w:World}{g:Nat}{ws:List Int}(h:qzf w g ws)(j d:Nat)(hd:d < 4294967296):qzf (w.setCell ⟨g,j,none⟩ (.int .u32 d)) g (ws.set j d) :=
 ⟨by rw [heap_setCell_same w g j _ _ _ h.blk,qin],by rw [List.length_set,h.len],qf4 h.dig j d hd⟩
theorem qcf{B:Nat}{a w:World}(h:Below B a w){g:Nat}(hg:B<=g)(cs:Array Value):Below B a (w.setRow g cs) :=
 ⟨h.os,h.tape,h.output,by rw [size_setRow]; exact h.size,fun k hk=>(setRow_other w g k cs (by omega)).trans (h.block k hk)⟩
def qdr:List Int:=List.replicate 74 0
theorem Tryz.info166:(Tryz.prog.info? 166).map (fun i=>(i.zero,i.size))=some (some (.agg (qat qdr)),74):=by kernel_rfl
theorem qp5(x r:Nat)(hx:x < 4294967296)(hr:r < 32):IntKind.u64.wrap ((x:Int)*2^r)=((x*2^r:Nat):Int):=by
 have h1:x*2^r < 4294967296*2^32:=Nat.lt_of_lt_of_le (Nat.mul_lt_mul_of_pos_right hx (Nat.pow_pos (by decide))) (Nat.mul_le_mul_left _ (Nat.pow_le_pow_right (by decide) (by omega)))
 have e:((x:Int)*2^r)=((x*2^r:Nat):Int):=by push_cast; rfl
 rw [e,IntKind.wrap_u64]
 omega
theorem q1k(p x r:Nat)(hx:x < 4294967296)(hr:r < 32)(hp:p < 2^r)(hs:p+x*2^r%4294967296 < 4294967296) :
  bits .or .u32 (p:Int) (IntKind.u64.wrap ((x:Int)*2^r)%4294967296)=((p+x*2^r%4294967296:Nat):Int):=by
 have e1:((x*2^r:Nat):Int)%4294967296=((x*2^r%4294967296:Nat):Int):=by omega
 have h3:x*2^r%4294967296%2^r=0:=by
  have e:(4294967296:Nat)=2^r*2^(32-r):=by rw [<-Nat.pow_add,show r+(32-r)=32 by omega]
  conv=>lhs; rw [e,Nat.mul_comm x]
  rw [Nat.mul_mod_mul_left]
  exact Nat.mul_mod_right _ _
 rw [qp5 x r hx hr,e1,u32_or_nat _ _ (by omega) (by omega),Nat.or_comm,nat_join r _ _ h3 hp,Nat.add_comm]
theorem q1l(x r:Nat)(hx:x < 4294967296)(hr:r < 32)(hs:x*2^r/4294967296 < 4294967296) :
  bits .or .u32 0 (IntKind.u64.wrap ((x:Int)*2^r)/4294967296%4294967296)=((x*2^r/4294967296:Nat):Int):=by
 have e1:((x*2^r:Nat):Int)/4294967296%4294967296=((x*2^r/4294967296:Nat):Int):=by omega
 rw [qp5 x r hx hr,e1]
 have:=u32_or_nat 0 (x*2^r/4294967296) (by decide) hs
 simpa using this
theorem qtk(w:World)(lo hi:Nat)(s:Bool)(A:Option Addr)(n c:Nat)(xs:List Int)(ex k:Nat)(hX:qae w lo hi .u32 A n xs)(hhi:hi<=w.heap.size)(hd:Dig 4294967296 xs)(hn:n<=40)(_he:ex<=2000)(hk:k<=1024)(kk:Int)(hkk:kk=(ex:Int)+k) :
  Calls Tryz.prog 177 #[.agg #[.bool s,.slice A n c,.int .i64 ex],.int .i64 kk] w fun e w'=>∃ ws,e=.returned (.agg (qat ws))/\Below w.heap.size w w'/\ws.length=74/\Dig 4294967296 ws/\num 4294967296 ws=num 4294967296 xs*2^k:=by
 subst hkk
 have hL:=Lib.hid hX.len
 obtain⟨hz,hi81⟩:=zero_of_info Tryz.info166
 have hI:=Lib.hid hi81
 clear hi81
 have hek:(ex:Int)+k-ex=k:=by omega
 have hzz:(num 4294967296 qdr=0)/\qdr.length=74/\Dig 4294967296 qdr:=⟨qe0 _ _,by simp [qdr],fun x hx=>by have:=List.eq_of_mem_replicate hx; omega⟩
 have HZ:=Lib.hid hzz
 clear hzz
 go_enter Tryz.func177,Tryz.ntmps177
 go_wp2
 go_loopw [6,7,8,16] (fun _ _ _ iv wr=>∃ i:Nat,∃ ws:List Int,iv=.int .i64 i/\i<=n/\Below w.heap.size w wr/\qzf wr (w.heap.size+1) ws/\Hid (num 4294967296 ws=num 4294967296 (xs.take i)*2^k)) (fun _ _ _ iv _=>n-(intOf iv).toNat)
 case atStart =>
  exact⟨0,qdr,rfl,Nat.zero_le _,((Below.refl _ _).alloc (Nat.le_refl _) _).alloc (by simp) _,⟨heap_alloc2_new _ _ _,HZ.out.2.1,HZ.out.2.2⟩,by rw [Hid,HZ.out.1]; simp [num]⟩
 obtain⟨i,ws,rfl,hin,hb,hW,hnum⟩:=hrel
 by_cases hlt:i < n
 . obtain⟨b,off,rfl,hcell⟩:=get (hX.below hb hhi) (by omega)
   have g1:=hcell i hlt
   obtain⟨x,hx,hx2⟩:=qa3 (by decide) hd i
   rw [hx] at g1
   obtain⟨p,hp,hp2⟩:=qa3 (by decide) hW.dig (i+k/32)
   obtain⟨l1,l2,l3,l4,l5,l6⟩:=qpu hW.dig hd (by rw [hW.len]; omega) hnum.out hx hp
   have c1:=hW.cell (j:=i+k/32) (by omega)
   have c2:=hW.cell (j:=i+k/32+1) (by omega)
   have f1:=hW.free (i+k/32)
   have f2:=hW.free (i+k/32+1)
   rw [hp] at c1
   rw [l2] at c2
   have HX:=Lib.hid hx
   have HP:=Lib.hid hp
   have L2:=Lib.hid l2
   clear hcell hx hp l2
   go_wp2
   go_roundw
   case rel =>
    have E1:=q1k p x (k%32) hx2 (Nat.mod_lt _ (by decide)) l1 l3
    have E2:=q1l x (k%32) hx2 (Nat.mod_lt _ (by decide)) l4
    rw [E1,E2]
    exact⟨i+1,(ws.set (i+k/32) ((p+x*2^(k%32)%4294967296:Nat):Int)).set (i+k/32+1) ((x*2^(k%32)/4294967296:Nat):Int),by go_num,by omega,(hb.setCell (by simp) _).setCell (by simp) _,(hW.set _ _ l3).set _ _ l4,Lib.hid l6⟩
   case measure=>simp [intOf]; omega
 obtain rfl:i=n:=by omega
 have hend:=hnum.out
 rw [List.take_of_length_le (by rw [hL.out]; exact Nat.le_refl _)] at hend
 have HE:=Lib.hid hend
 have hsz:(qat ws).size=74:=by rw [qau,hW.len]
 have hsz2:=hI.out
 rw [<-hsz] at hsz2
 have hblk:=hW.blk
 have hone:=qde ws
 have HS:=Lib.hid hsz
 have HS2:=Lib.hid hsz2
 have HB:=Lib.hid hblk
 have HO:=Lib.hid hone
 clear hend hsz hsz2 hblk hone hnum
 go_wp2_with (first
  | (refine wpList_load_row rfl 166 (.tmp 4) rfl (w.heap.size+1) rfl _ _ _ _ HB.out Tryz.underlying166 rfl HS2.out ?_)
  | (refine wpList_store_row rfl 166 (.tmp 4) (.tmp 49) rfl (w.heap.size+1) (qat ws) rfl rfl _ _ HB.out HS2.out rfl HO.out ?_))
 have hblk2:=setRow_heap wr (w.heap.size+1) (qat ws) (qat ws) _ _ HB.out
 refine bodyPost_ret (v:=.agg (qat ws)) (results_cell_row Tryz.results177 _ _ (w.heap.size+1) _ _ _ _ rfl hblk2 Tryz.underlying166 rfl HS2.out) rfl ⟨ws,rfl,?_,hW.len,hW.dig,HE.out⟩
 exact qcf hb (by omega) _
theorem qb5(w:World)(a b:Nat):(w.drewN a).drewN b=w.drewN (a+b):=by simp [World.drewN,Nat.add_assoc]
structure Row(w:World)(g o:Nat)(ws:List Int):Prop where
 cell:∀ j,j < 74->w.cell? ⟨g,o+j,none⟩=some (.int .u32 (ws[j]?.getD 0))
 free:∀ j,j < 74->w.frozen? ⟨g,o+j,none⟩=false
 len:ws.length=74
 dig:Dig 4294967296 ws
theorem Row.keep{w w':World}{g o:Nat}{ws:List Int}(h:Row w g o ws)(hk:∀ j,j < 74->w'.cell? ⟨g,o+j,none⟩=w.cell? ⟨g,o+j,none⟩/\w'.frozen? ⟨g,o+j,none⟩=w.frozen? ⟨g,o+j,none⟩):Row w' g o ws :=
 ⟨fun j hj=>(hk j hj).1.trans (h.cell j hj),fun j hj=>(hk j hj).2.trans (h.free j hj),h.len,h.dig⟩
theorem qs4{ws us:List Int}(h:ws.drop 0=us.drop 0):decide (num 4294967296 ws < num 4294967296 us)=false:=by
 simp only [List.drop_zero] at h
 rw [h]
 simp
structure qbq(g:Nat)(w w':World):Prop where
 os:w'.os=w.os
 tape:w'.tape=w.tape
 output:w'.output=w.output
 size:w.heap.size<=w'.heap.size
 block:∀ k,k < w.heap.size->k≠g->w'.heap[k]? = w.heap[k]?
theorem qbq.refl(g:Nat)(w:World):qbq g w w:=⟨rfl,rfl,rfl,Nat.le_refl _,fun _ _ _=>rfl⟩
theorem qbq.trans{g:Nat}{a b c:World}(h:qbq g a b)(k:qbq g b c):qbq g a c :=
 ⟨k.os.trans h.os,k.tape.trans h.tape,k.output.trans h.output,Nat.le_trans h.size k.size,fun j hj hg=>(k.block j (Nat.lt_of_lt_of_le hj h.size) hg).trans (h.block j hj hg)⟩
theorem qbq.setCell{g o:Nat}{a w:World}(h:qbq g a w)(u:Value):qbq g a (w.setCell ⟨g,o,none⟩ u) :=
 ⟨h.os,h.tape,h.output,by have:=h.size; simp [World.setCell]; omega,fun k hk hg=>(Below.heap_setCell _ _ _ _ hg).trans (h.block k hk hg)⟩
theorem qbq.drewN{g:Nat}{a w:World}(h:qbq g a w)(m:Nat):qbq g a (w.drewN m):=⟨h.os,h.tape,h.output,h.size,h.block⟩
theorem qbq.drew{g:Nat}{a w:World}(h:qbq g a w):qbq g a w.drew:=⟨h.os,h.tape,h.output,h.size,h.block⟩
theorem qbq.below{g B:Nat}{a w w':World}(h:qbq g w w')(hB:Below B a w)(hg:B<=g)(hs:B<=w.heap.size):Below B a w' :=
 ⟨h.os.trans hB.os,h.tape.trans hB.tape,h.output.trans hB.output,Nat.le_trans hB.size h.size,fun k hk=>(h.block k (by omega) (by omega)).trans (hB.block k hk)⟩
structure Sum(w:World)(g:Nat)(s:Bool)(L:Value)(ex:Int)(ws:List Int):Prop where
 blk:w.heap[g]? = some (.cells (#[.bool s,L,.int .i64 ex]++qat ws) 168 (0,0))
 len:ws.length=74
 dig:Dig 4294967296 ws
theorem q1d(s:Bool)(L:Value)(ex:Int)(ws:List Int)(j:Nat):(#[.bool s,L,.int .i64 ex]++qat ws)[3+j]? = (qat ws)[j]? := by
 rw [Array.getElem?_append_right (by simp)]
 congr 1
 simp
theorem Sum.row{w:World}{g:Nat}{s:Bool}{L:Value}{ex:Int}{ws:List Int}(h:Sum w g s L ex ws):Row w g 3 ws :=
 ⟨fun j hj=>by rw [cell_of_row w g _ _ _ _ h.blk,q1d]; exact qeh ws (by rw [h.len]; exact hj),fun j _=>frozen_of_row w g _ _ _ h.blk,h.len,h.dig⟩
theorem Sum.head{w:World}{g:Nat}{s:Bool}{L:Value}{ex:Int}{ws:List Int}(h:Sum w g s L ex ws):w.cell? ⟨g,0,none⟩=some (.bool s)/\w.cell? ⟨g,1,none⟩=some L/\w.cell? ⟨g,2,none⟩=some (.int .i64 ex):=by
 refine⟨?_,?_,?_⟩<;>(rw [cell_of_row w g _ _ _ _ h.blk,Array.getElem?_append_left (by simp)]; rfl)
theorem Sum.free{w:World}{g:Nat}{s:Bool}{L:Value}{ex:Int}{ws:List Int}(h:Sum w g s L ex ws)(j:Nat):w.frozen? ⟨g,j,none⟩=false:=frozen_of_row w g j _ _ h.blk
theorem Sum.of_heap{w w':World}{g:Nat}{s:Bool}{L:Value}{ex:Int}{ws:List Int}(h:Sum w g s L ex ws)(hh:w'.heap[g]? = w.heap[g]?):Sum w' g s L ex ws:=⟨hh.trans h.blk,h.len,h.dig⟩
theorem qvq{l m:List Int}{i:Nat}(h:l.drop i=m.drop i):l[i]?.getD 0=m[i]?.getD 0:=by
 have e:=congrArg (fun t=>t[0]?.getD 0) h
 simpa using e
theorem qvp{l m:List Int}{i:Nat}{v:Int}(_hl:i < l.length)(h:l.drop i=m.drop i):Hid ((l.set i v).drop (i+1)=m.drop (i+1)):=by
 rw [Hid,List.drop_set_of_lt (by omega)]
 have e:=congrArg (List.drop 1) h
 rw [List.drop_drop,List.drop_drop] at e
 exact e
end Dy
end Go.Proofs.YtmbppgjhdcmckaaGreatDoor