/- The reference's runes: more, row, Decode, by the same plain words. -/
import Derived.Test.YtmomjpolkkbhnaaGreatQModelRunsRow6
import Derived.Test.YtmomjpolkkbhnaaGreatQModelRunsRow1
set_option maxRecDepth 20000
set_option maxHeartbeats 100000000
set_option linter.unusedSimpArgs false
open Go.Proofs.Tryz
namespace Go.Proofs.YtmomjpolkkbhnaaGreat
namespace Ut
open Go.RowKit
theorem Ku(s:ByteArray)(p n:Nat)(w:World)(h:s.size≤p):Calls prog 217 #[.string s,.int .i64 (p:Int),.int .i64 (n:Int)] w fun e w'=>e=.returned (.tuple #[.int .i64 0,.bool false])∧w=w':=by
 have a:(s.size:Int)≤(p:Int):=jo;go_enter func217,ntmps217;go_wp2;go_ret2;exact⟨rfl,rfl⟩
theorem Iz(s:ByteArray)(p n m:Nat)(w:World)(h:p<s.size)(hm:(s[p]).toNat=m)(hc:¬m/64=2)(h256:m<256):Calls prog 217 #[.string s,.int .i64 (p:Int),.int .i64 (n:Int)] w fun e w'=>e=.returned (.tuple #[.int .i64 0,.bool false])∧w=w':=by
 have a:¬(s.size:Int)≤(p:Int):=jo;have b:¬((m:Int)/64=2):=jo;go_enter func217,ntmps217;go_wp2;go_ret2;exact⟨rfl,rfl⟩
theorem I0(s:ByteArray)(p n m:Nat)(w:World)(h:p<s.size)(hm:(s[p]).toNat=m)(hc:m/64=2)(h256:m<256)(hn:n<1000000000):Calls prog 217 #[.string s,.int .i64 (p:Int),.int .i64 (n:Int)] w fun e w'=>e=.returned (.tuple #[.int .i64 ((n*64+m%64:Nat):Int),.bool true])∧w=w':=by
 have a:¬(s.size:Int)≤(p:Int):=jo;have b:((m:Int)/64=2):=jo;go_enter func217,ntmps217;go_wp2;go_ret2;exact⟨ju,rfl⟩
theorem lo1(r:Int)(h:(65≤r∧r≤90)∨(192≤r∧r≤222∧r≠215)∨(913≤r∧r≤939∧r≠930)∨(1040≤r∧r≤1071)):r+32=lower r:=by unfold lower;rw[zI h]
theorem lo2(r:Int)(h:1024≤r∧r≤1039):r+80=lower r:=by unfold lower;rw[zH (by omega),zI h]
theorem lo3(r:Int)(h:¬((65≤r∧r≤90)∨(192≤r∧r≤222∧r≠215)∨(913≤r∧r≤939∧r≠930)∨(1040≤r∧r≤1071)))(h2:¬(1024≤r∧r≤1039)):r=lower r:=by unfold lower;rw[zH h,zH h2]
theorem Gd(r:Int)(w:World):Calls prog 207 #[.int .i64 r] w fun e w'=>e=.returned (.int .i64 (lower r))∧w=w':=by
 go_enter func207,ntmps207;go_wp2
 all_goals
  go_ret;refine⟨congrArg (fun x=>Ending.returned (Value.int .i64 x)) ?_,rfl⟩;try simp only[bne_iff_ne,ne_eq,bne_eq_false_iff_eq]at *
  first|exact lo1 r jo|exact lo2 r jo|exact lo3 r jo jo
def iQ(t:List UInt8)(k:Nat):Bool:=decide (k-1≤t.length)&&(t.take (k-1)).all gF
def kH(m:Nat)(t:List UInt8)(k:Nat):Nat:=if iQ t k then acc m (t.take (k-1))else 0
theorem I2(s:ByteArray)(p n:Nat)(w:World)(hn:n<1000000000):Calls prog 217 #[.string s,.int .i64 (p:Int),.int .i64 (n:Int)] w fun e w'=>w=w' ∧
  ((∃h:p<s.size,gF s[p]=true∧e=.returned (.tuple #[.int .i64 ((n*64+(s[p]).toNat%64:Nat):Int),.bool true]))∨(¬(∃h:p<s.size,gF s[p]=true)∧e=.returned (.tuple #[.int .i64 0,.bool false]))):=by
 by_cases h:p<s.size
 ·have a:=(s[p]).toNat_lt;by_cases b:(s[p]).toNat/64=2
  ·refine(I0 s p n _ w h rfl b a hn).mono ?_;rintro e w' ⟨rfl,rfl⟩;exact⟨rfl,Or.inl ⟨h,by simp[gF,b],rfl⟩⟩
  refine(Iz s p n _ w h rfl b a).mono ?_;rintro e w' ⟨rfl,rfl⟩;exact⟨rfl,Or.inr ⟨fun⟨h',h2⟩=>b (by simpa[gF]using h2),rfl⟩⟩
 refine(Ku s p n w jo).mono ?_;rintro e w' ⟨rfl,rfl⟩;exact⟨rfl,Or.inr ⟨fun⟨h',_⟩=>h h',rfl⟩⟩
theorem Bh(s:ByteArray)(k j:Nat)(hj:1≤j)(h:k+j<s.size):(s.data.toList.drop (k+1)).take j=(s.data.toList.drop (k+1)).take (j-1) ++ [s[k+j]]:=by
 obtain⟨i,rfl⟩:∃i,j=i+1:=⟨j-1,jo⟩;have a:i<(s.data.toList.drop (k+1)).length:=by rw[zP,fB];omega
 rw[zL a,Nat.add_sub_cancel];congr 2;rw[List.getElem_drop,Array.getElem_toList];have:k+1+i=k+(i+1):=jo;simp only[this];rfl
theorem I3(s:ByteArray)(k j m:Nat)(hj:1≤j)(h:k+j<s.size)(hc:gF s[k+j]=true)(hok:iQ (s.data.toList.drop (k+1)) j=true) :
  iQ (s.data.toList.drop (k+1)) (j+1)=true∧acc m ((s.data.toList.drop (k+1)).take j)=acc m ((s.data.toList.drop (k+1)).take (j-1))*64+(s[k+j]).toNat%64:=by
 have a:=Bh s k j hj h;refine⟨?_,by rw[a,qo]⟩;simp only[iQ,zr,zg,Nat.add_sub_cancel]at hok ⊢;refine⟨by rw[zP,fB];omega,?_⟩;rw[a,List.all_append,hok.2];simp[hc]
theorem I4(s:ByteArray)(k j z:Nat)(hj:1≤j)(hz:j<z)(hno:¬ ∃h:k+j<s.size,gF s[k+j]=true):iQ (s.data.toList.drop (k+1)) z=false:=by
 cases hr:iQ (s.data.toList.drop (k+1)) z with
 | false=>rfl
 | true=>
  exfalso;simp only[iQ,zr,zg]at hr;have b:=hr.1;rw[zP,fB]at b;have h:k+j<s.size:=jo;refine hno ⟨h,List.all_eq_true.1 hr.2 _ ?_⟩;have a:=Bh s k j hj h;have:s[k+j]∈(s.data.toList.drop (k+1)).take j:=by rw[a];simp
  exact(List.take_subset_take_left _ jo) this
theorem uy(s:ByteArray)(k m z:Nat)(w:World)(hk:k<s.size)(hs:s.size≤140737488351232)(hm:m<32)(hz:1≤z)(hz4:z≤4):Calls prog 213 #[.string s,.int .i64 (k:Int),.int .i64 (m:Int),.int .i64 (z:Int)] w fun e w'=>e=.returned (.tuple #[.int .i64 (kH m (s.data.toList.drop (k+1)) z:Nat),.bool (iQ (s.data.toList.drop (k+1)) z)])∧w=w':=by
 have t:iQ (s.data.toList.drop (k+1)) 1=true:=by simp[iQ]
 have v:=zh t;have b:=fun(j:Nat) (hj:1≤j) (h:k+j<s.size) (d:gF s[k+j]=true) (hok:iQ (s.data.toList.drop (k+1)) j=true)=>I3 s k j m hj h d hok
 have g:=fun(j:Nat) (hj:1≤j) (hz:j<z) (h:¬ ∃h:k+j<s.size,gF s[k+j]=true)=>I4 s k j z hj hz h
 have f:=fun(j:Nat) (hj:j≤4)=>oD m ((s.data.toList.drop (k+1)).take (j-1)) hm jw
 have l:kH m (s.data.toList.drop (k+1)) z=if iQ (s.data.toList.drop (k+1)) z then acc m ((s.data.toList.drop (k+1)).take (z-1))else 0:=rfl;have Hof:=zh l;have Hyes:=zh b;have Hno:=zh g;have Hlt:=zh f;clear t b g f l;go_enter func213,ntmps213;go_wp2
 go_loopw [2,10] (fun n i wr=>∃j:Nat,1≤j∧j≤z∧i=.int .i64 j∧n=.int .i64 (acc m ((s.data.toList.drop (k+1)).take (j-1)):Nat)∧Hid (iQ (s.data.toList.drop (k+1)) j=true)∧wr=w)
  (fun _ i _=>z-(intOf i).toNat)
 case atStart=>exact⟨1,jo,jo,rfl,rfl,v,rfl⟩
 obtain⟨j,p,y,rfl,rfl,Hok,rfl⟩:=hrel;by_cases r:j<z
 ·have u:=Hlt.out j jo;have c:=I2 s (k+j) (acc m ((s.data.toList.drop (k+1)).take (j-1))) wr jo;have Hst:=zh (Hno.out j p r);have Hgo:=zh (fun h d=>(Hyes.out j p h d Hok.out));generalize acc m ((s.data.toList.drop (k+1)).take (j-1))=a at *;go_wp2_with fail;refine c.mono ?_;rintro e w' ⟨rfl,h⟩;rcases h with⟨h,d,rfl⟩|⟨h,rfl⟩
  ·have q:=zh (Hgo.out h d);clear d Hgo Hst;go_wp2;go_roundw
   case rel=>exact⟨j+1,jo,jo,ju,by rw[Nat.add_sub_cancel,q.out.2];go_num,zh q.out.1,trivial⟩
   simp[intOf];omega
  have q:=zh (Hst.out h);clear h Hgo Hst;go_wp2;go_ret2;exact⟨by rw[Hof.out,q.out];rfl,rfl⟩
 obtain rfl:j=z:=jo;generalize o:acc m ((s.data.toList.drop (k+1)).take (j-1))=a at *;have x:=zh o;clear o;go_wp2;go_ret2;exact⟨by rw[Hof.out,Hok.out,zI rfl];rfl,rfl⟩
theorem I5(m:Nat)(t:List UInt8)(k lo hi:Nat):iw m t k lo hi=(iQ t k&&(decide (lo≤kH m t k)&&(decide (kH m t k≤hi) && !(decide (55296≤kH m t k)&&decide (kH m t k≤57343))))):=by
 unfold iw kH
 cases h:iQ t k with
 | true=>
  rw[zI rfl];unfold iQ at h;rw[zr]at h;rw[h.1,h.2,Bool.true_and]
 | false=>
  rw[Bool.false_and];unfold iQ at h;rw[←Bool.and_assoc,h,Bool.false_and]
theorem uR(m:Nat)(t:List UInt8)(k lo hi a:Nat)(ok:Bool)(ha:kH m t k=a)(ho:iQ t k=ok) :
  (ok=true→lo≤a→a≤hi→¬(55296≤a∧a≤57343)→fR m t k lo hi=(a,k))∧((ok=false∨a<lo∨hi<a∨(55296≤a∧a≤57343))→fR m t k lo hi=(65533,1)):=by
 have c:=I5 m t k lo hi;rw[ha,ho]at c;refine⟨fun e g f i=>?_,fun h=>?_⟩
 ·have b:iw m t k lo hi=true:=by
   rw[c];simp only[zr,zg,Bool.not_eq_true',Bool.and_eq_false_iff,decide_eq_false_iff_not];exact⟨e,g,f,jo⟩
  unfold fR;rw[zI b];have:kH m t k=acc m (t.take (k-1)):=by unfold kH;rw[zI (by rw[ho];exact e)]
  rw[←ha,this]
 have b:iw m t k lo hi=false:=by
  cases hx:iw m t k lo hi with
  | false=>rfl
  | true=>
   exfalso;rw[c]at hx;simp only[zr,zg,Bool.not_eq_true',Bool.and_eq_false_iff,decide_eq_false_iff_not]at hx;obtain⟨d,j,l,n⟩:=hx;rcases h with h|h|h|h
   ·rw[h]at d;cases d
   ·omega
   ·omega
   omega
 unfold fR;rw[zH (by rw[b];decide)]
theorem Ck(m M:Nat)(t:List UInt8)(k:Nat)(hm:m<M)(hM:M≤32)(hk:1≤k)(hk4:k≤4):kH m t k<M*64 ^ (k-1):=by
 unfold kH
 split
 ·have e:(t.take (k-1)).length≤k-1:=jw;have i:0<64 ^ (k-1):=Nat.pow_pos jd
  have g:∀l:List UInt8,l.length≤k-1→acc m l<M*64 ^ (k-1):=by
   intro l e;have f:k-1=0∨k-1=1∨k-1=2∨k-1=3:=jo
   match l,e with
   | [],_=>simp only[acc,List.foldl_nil];rcases f with h|h|h|h<;>rw[h]<;>omega
   | [a],e=>simp only[acc,List.foldl_cons,List.foldl_nil];simp only[zV,List.length_nil]at e;rcases f with h|h|h|h<;>rw[h]at e ⊢ <;> omega
   | [a,b],e=>simp only[acc,List.foldl_cons,List.foldl_nil];simp only[zV,List.length_nil]at e;rcases f with h|h|h|h<;>rw[h]at e ⊢ <;> omega
   | [a,b,c],e=>simp only[acc,List.foldl_cons,List.foldl_nil];simp only[zV,List.length_nil]at e;rcases f with h|h|h|h<;>rw[h]at e ⊢ <;> omega
   | a::b::c::d::l,e=>simp only[zV]at e;omega
  exact g _ e
 exact Nat.mul_pos jo (Nat.pow_pos jd)
end Ut

namespace Ut
open Go.RowKit
set_option maxRecDepth 20000 in
theorem MU(s:ByteArray)(k m:Nat)(w:World)(hk:k<s.size)(hs:s.size≤140737488351232)(hm:(s[k]).toNat=m)(h6:m/32=6) :
  Calls prog 205 #[.string s,.int .i64 (k:Int)] w fun e w'=>e=.returned (.tuple #[.int .i64 ((fR (m%32) (s.data.toList.drop (k+1)) 2 128 2047).1:Nat),.int .i64 ((fR (m%32) (s.data.toList.drop (k+1)) 2 128 2047).2:Nat)])∧w=w':=by
 have u:¬(k:Int)<0:=jo;have t:¬(s.size:Int)≤(k:Int):=jo;have r:¬(m:Int)<128:=jo;have p:(m:Int)/32=6:=jo;have q:¬(m:Int)/16=14:=jo;have v:¬(m:Int)/8=30:=jo;have c:=uy s k (m%32) 2 w hk hs jo jo jo;have o:=Ck (m%32) 32 (s.data.toList.drop (k+1)) 2 jo jo jo jo;have d:=uR (m%32) (s.data.toList.drop (k+1)) 2 128 2047 _ _ rfl rfl;rw[show ((m%32:Nat):Int)=(m:Int)%32 from by omega]at c;generalize fR (m%32) (s.data.toList.drop (k+1)) 2 128 2047=F at *;generalize kH (m%32) (s.data.toList.drop (k+1)) 2=a at *;generalize iQ (s.data.toList.drop (k+1)) 2=i at *;clear h6;by_cases b:i=true∧128≤a
 ·obtain⟨rfl,g⟩:=b;have j:=d.1 rfl g jo jo;subst j;have f:¬(a:Int)<128:=jo;clear d;go_enter func205,ntmps205;go_wp2_with fail;refine c.mono ?_;rintro e n ⟨rfl,rfl⟩;go_wp2;go_ret2;exact⟨rfl,rfl⟩
 have j:=d.2 (by rcases Bool.eq_false_or_eq_true i with h|h;(· exact Or.inr (Or.inl (by have:¬128≤a:=fun l=>b ⟨h,l⟩;omega)));exact Or.inl h);subst j;clear d;rcases Bool.eq_false_or_eq_true i with rfl|rfl
 ·have f:(a:Int)<128:=by have:¬128≤a:=fun l=>b ⟨rfl,l⟩;omega
  clear b;go_enter func205,ntmps205;go_wp2_with fail;refine c.mono ?_;rintro e n ⟨rfl,rfl⟩;go_wp2;go_ret2;exact⟨rfl,rfl⟩
 clear b;go_enter func205,ntmps205;go_wp2_with fail;refine c.mono ?_;rintro e n ⟨rfl,rfl⟩;go_wp2;go_ret2;exact⟨rfl,rfl⟩
set_option maxRecDepth 20000 in
theorem MV(s:ByteArray)(k m:Nat)(w:World)(hk:k<s.size)(hs:s.size≤140737488351232)(hm:(s[k]).toNat=m)(h6:m/16=14) :
  Calls prog 205 #[.string s,.int .i64 (k:Int)] w fun e w'=>e=.returned (.tuple #[.int .i64 ((fR (m%16) (s.data.toList.drop (k+1)) 3 2048 65535).1:Nat),.int .i64 ((fR (m%16) (s.data.toList.drop (k+1)) 3 2048 65535).2:Nat)])∧w=w':=by
 have v:¬(k:Int)<0:=jo;have u:¬(s.size:Int)≤(k:Int):=jo;have t:¬(m:Int)<128:=jo;have q:¬(m:Int)/32=6:=jo;have r:(m:Int)/16=14:=jo;have x:¬(m:Int)/8=30:=jo;have c:=uy s k (m%16) 3 w hk hs jo jo jo;have j:=Ck (m%16) 16 (s.data.toList.drop (k+1)) 3 jo jo jo jo;have b:=uR (m%16) (s.data.toList.drop (k+1)) 3 2048 65535 _ _ rfl rfl;rw[show ((m%16:Nat):Int)=(m:Int)%16 from by omega]at c;generalize fR (m%16) (s.data.toList.drop (k+1)) 3 2048 65535=F at *;generalize kH (m%16) (s.data.toList.drop (k+1)) 3=a at *;generalize iQ (s.data.toList.drop (k+1)) 3=p at *;clear h6;have Hlt:Hid (a≤65535):=zh jo;clear j;rcases Bool.eq_false_or_eq_true p with rfl|rfl
 ·by_cases f:2048≤a
  ·have n:¬(a:Int)<2048:=jo;by_cases h:55296≤a
   ·by_cases l:a≤57343
    ·have d:=b.2 (Or.inr (Or.inr (Or.inr ⟨h,l⟩)));subst d;have g:¬(a:Int)<55296:=jo;have o:¬(57343:Int)<a:=jo;clear b f h l;try dsimp only
     generalize (a:Int)=z at *;go_enter func205,ntmps205;go_wp2_with fail;refine c.mono ?_;rintro e i ⟨rfl,rfl⟩;go_wp2;go_ret2;exact⟨rfl,rfl⟩
    have d:=b.1 rfl f Hlt.out jo;subst d;have g:¬(a:Int)<55296:=jo;have o:(57343:Int)<a:=jo;clear b f h l;try dsimp only
    generalize (a:Int)=z at *;go_enter func205,ntmps205;go_wp2_with fail;refine c.mono ?_;rintro e i ⟨rfl,rfl⟩;go_wp2;go_ret2;exact⟨rfl,rfl⟩
   have d:=b.1 rfl f Hlt.out jo;subst d;have g:(a:Int)<55296:=jo;clear b f h;try dsimp only
   generalize (a:Int)=z at *;go_enter func205,ntmps205;go_wp2_with fail;refine c.mono ?_;rintro e i ⟨rfl,rfl⟩;go_wp2;go_ret2;exact⟨rfl,rfl⟩
  have d:=b.2 (Or.inr (Or.inl jo));subst d;have n:(a:Int)<2048:=jo;clear b f;try dsimp only
  generalize (a:Int)=z at *;go_enter func205,ntmps205;go_wp2_with fail;refine c.mono ?_;rintro e i ⟨rfl,rfl⟩;go_wp2;go_ret2;exact⟨rfl,rfl⟩
 have d:=b.2 (Or.inl rfl);subst d;clear b;try dsimp only
 generalize (a:Int)=z at *;go_enter func205,ntmps205;go_wp2_with fail;refine c.mono ?_;rintro e i ⟨rfl,rfl⟩;go_wp2;go_ret2;exact⟨rfl,rfl⟩
set_option maxRecDepth 20000 in
theorem MW(s:ByteArray)(k m:Nat)(w:World)(hk:k<s.size)(hs:s.size≤140737488351232)(hm:(s[k]).toNat=m)(h6:m/8=30) :
  Calls prog 205 #[.string s,.int .i64 (k:Int)] w fun e w'=>e=.returned (.tuple #[.int .i64 ((fR (m%8) (s.data.toList.drop (k+1)) 4 65536 1114111).1:Nat),.int .i64 ((fR (m%8) (s.data.toList.drop (k+1)) 4 65536 1114111).2:Nat)])∧w=w':=by
 have r:¬(k:Int)<0:=jo;have q:¬(s.size:Int)≤(k:Int):=jo;have p:¬(m:Int)<128:=jo;have n:¬(m:Int)/32=6:=jo;have o:¬(m:Int)/16=14:=jo;have t:(m:Int)/8=30:=jo;have c:=uy s k (m%8) 4 w hk hs jo jo jo;have b:=uR (m%8) (s.data.toList.drop (k+1)) 4 65536 1114111 _ _ rfl rfl;rw[show ((m%8:Nat):Int)=(m:Int)%8 from by omega]at c;generalize fR (m%8) (s.data.toList.drop (k+1)) 4 65536 1114111=F at *;generalize kH (m%8) (s.data.toList.drop (k+1)) 4=a at *;generalize iQ (s.data.toList.drop (k+1)) 4=l at *;clear h6;rcases Bool.eq_false_or_eq_true l with rfl|rfl
 ·by_cases f:65536≤a
  ·have i:¬(a:Int)<65536:=jo;by_cases h:a≤1114111
   ·have d:=b.1 rfl f h jo;subst d;have g:¬(1114111:Int)<a:=jo;clear b f h;try dsimp only
    generalize (a:Int)=z at *;go_enter func205,ntmps205;go_wp2_with fail;refine c.mono ?_;rintro e j ⟨rfl,rfl⟩;go_wp2;go_ret2;exact⟨rfl,rfl⟩
   have d:=b.2 (Or.inr (Or.inr (Or.inl jo)));subst d;have g:(1114111:Int)<a:=jo;clear b f h;try dsimp only
   generalize (a:Int)=z at *;go_enter func205,ntmps205;go_wp2_with fail;refine c.mono ?_;rintro e j ⟨rfl,rfl⟩;go_wp2;go_ret2;exact⟨rfl,rfl⟩
  have d:=b.2 (Or.inr (Or.inl jo));subst d;have i:(a:Int)<65536:=jo;clear b f;try dsimp only
  generalize (a:Int)=z at *;go_enter func205,ntmps205;go_wp2_with fail;refine c.mono ?_;rintro e j ⟨rfl,rfl⟩;go_wp2;go_ret2;exact⟨rfl,rfl⟩
 have d:=b.2 (Or.inl rfl);subst d;clear b;try dsimp only
 generalize (a:Int)=z at *;go_enter func205,ntmps205;go_wp2_with fail;refine c.mono ?_;rintro e j ⟨rfl,rfl⟩;go_wp2;go_ret2;exact⟨rfl,rfl⟩
theorem I6(s:ByteArray)(a:Int)(w:World)(h:a<0∨(s.size:Int)≤a) :
  Calls prog 205 #[.string s,.int .i64 a] w fun e w'=>e=.returned (.tuple #[.int .i64 0,.int .i64 0])∧w=w':=by
 by_cases c:a<0
 ·clear h;go_enter func205,ntmps205;go_wp2;go_ret2;exact⟨rfl,rfl⟩
 have b:(s.size:Int)≤a:=jo;clear h;go_enter func205,ntmps205;go_wp2;go_ret2;exact⟨rfl,rfl⟩
theorem I7(s:ByteArray)(k m:Nat)(w:World)(hk:k<s.size)(hm:(s[k]).toNat=m)(h:m<128) :
  Calls prog 205 #[.string s,.int .i64 (k:Int)] w fun e w'=>e=.returned (.tuple #[.int .i64 (m:Int),.int .i64 1])∧w=w':=by
 have c:¬(k:Int)<0:=jo;have a:¬(s.size:Int)≤(k:Int):=jo;have b:(m:Int)<128:=jo;go_enter func205,ntmps205;go_wp2;go_ret2;exact⟨rfl,rfl⟩
theorem Gf(s:ByteArray)(k m:Nat)(w:World)(hk:k<s.size)(hm:(s[k]).toNat=m)(h128:128≤m)(h256:m<256)(h6:¬m/32=6)(h14:¬m/16=14)(h30:¬m/8=30) :
  Calls prog 205 #[.string s,.int .i64 (k:Int)] w fun e w'=>e=.returned (.tuple #[.int .i64 65533,.int .i64 1])∧w=w':=by
 have f:¬(k:Int)<0:=jo;have d:¬(s.size:Int)≤(k:Int):=jo;have c:¬(m:Int)<128:=jo;have a:¬(m:Int)/32=6:=jo;have b:¬(m:Int)/16=14:=jo;have g:¬(m:Int)/8=30:=jo;go_enter func205,ntmps205;go_wp2;go_ret2;exact⟨rfl,rfl⟩
theorem I8(s:ByteArray)(a:Int)(w:World)(hs:s.size≤140737488351232) :
  Calls prog 205 #[.string s,.int .i64 a] w fun e w'=>e=.returned (.tuple #[.int .i64 ((kV s a).1:Nat),.int .i64 ((kV s a).2:Nat)])∧w=w':=by
 by_cases h:a<0∨(s.size:Int)≤a
 ·have e:kV s a=(0,0):=by
   unfold kV;by_cases i:a<0
   ·rw[zI i]
   rw[zH i,qw s a.toNat jo];rfl
  rw[e];exact I6 s a w h
 obtain⟨k,rfl⟩:=Int.eq_ofNat_of_zero_le (show 0≤a by omega);have b:k<s.size:=jo
 have e:kV s (k:Int)=dec (s[k]::s.data.toList.drop (k+1)):=by
  unfold kV;rw[zH jo,Int.toNat_natCast,qi s k b]
 rw[e,qp];by_cases g:(s[k]).toNat<128
 ·rw[zI g];exact I7 s k _ w b rfl g
 rw[zH g];by_cases f:(s[k]).toNat/32=6
 ·rw[zI f];exact MU s k _ w b hs rfl f
 rw[zH f];by_cases c:(s[k]).toNat/16=14
 ·rw[zI c];exact MV s k _ w b hs rfl c
 rw[zH c];by_cases d:(s[k]).toNat/8=30
 ·rw[zI d];exact MW s k _ w b hs rfl d
 rw[zH d];exact Gf s k _ w b rfl jo (s[k]).toNat_lt f c d
end Ut

namespace Qp
open Go.RowKit Qy
inductive QF (w:World) (S:Nat→Prop):Q→List Value→Prop
 | mk {k:Int} {nm:ByteArray} {ws:List ByteArray} {l:List Q} {A C:Option Addr} {n c m d:Nat} (vss:List (List Value)) (hn:ws.length=n) (hw:ReadsS w S 1 A n (ws.map Value.string)) (hm:l.length=m) (hv:vss.length=m)
   (h4:∀v∈vss,v.length=4) (hl:ReadsS w S 4 C m vss.flatten) (kids:∀i (h:i<l.length) (h':i<vss.length),QF w S l[i] vss[i]):QF w S (.mk k nm ws l) [.int .i64 k,.string nm,.slice A n c,.slice C m d]
section
variable {w w':World} {S S':Nat→Prop} {q:Q} {vs:List Value}
theorem QF.keep(hk:∀b o,S b→w'.cell? ⟨b,o,none⟩=w.cell? ⟨b,o,none⟩)(h:QF w S q vs):QF w' S q vs:=by
 induction h with
 | mk vss hn hw hm hv h4 hl _ ih=>exact .mk vss hn (hw.keep hk) hm hv h4 (hl.keep hk) ih
theorem QF.mono(h:QF w S q vs)(hS:∀b,S b→S' b):QF w S' q vs:=by
 induction h with
 | mk vss hn hw hm hv h4 hl _ ih=>exact .mk vss hn (hw.mono hS) hm hv h4 (hl.mono hS) ih
theorem QF.at_{B:Nat}(h:QF w S q vs)(hS:∀b,S b→b<B):QAt w B q vs:=by
 induction h with
 | mk vss hn hw hm hv h4 hl _ ih=>exact .mk vss hn (hw.reads hS) hm hv h4 (hl.reads hS) ih
theorem QF.len(h:QF w S q vs):vs.length=4:=by cases h;rfl
theorem QF.four(h:QF w S q vs):∃A n c C m d,vs=[.int .i64 q.kind,.string q.name,.slice A n c,.slice C m d]:=by
 cases h with
 | @mk _ _ _ _ A C n c m d vss hn hw hm hv h4 hl kids=>exact⟨A,n,c,C,m,d,rfl⟩
end
def Kin(base:Nat)(w:World)(v:Value)(b:Nat):Prop:=base≤b∧b<w.heap.size∧v.ownBlock≠some b
structure Qs (base:Nat) (w:World) (v:Value) (l:List Q) (vss:List (List Value)):Prop where
 lv:vss.length=l.length
 own:w.ownsRow base 60 4 v l.length vss.flatten
 kid:∀i (h:i<l.length) (h':i<vss.length),QF w (Kin base w v) l[i] vss[i]
theorem Qs.start(base:Nat)(w:World):Qs base w (.slice none 0 0) [] []:=⟨rfl,vO _ _ _ _,fun i h=>absurd h (by simp)⟩
theorem Qs.four{base:Nat}{w:World}{v:Value}{l:List Q}{vss:List (List Value)}(h:Qs base w v l vss):∀u∈vss,u.length=4:=fun u b=>by
 obtain⟨j,a,rfl⟩:=zu.1 b;exact(h.kid j (by rw[←h.lv];exact a) a).len
theorem Qs.grown{base:Nat}{w w':World}{v:Value}{l:List Q}{vss:List (List Value)}{row:Option Nat}(h:Qs base w v l vss)(hg:w.grownBy w' row)(hr:∀b,row=some b→b<base):Qs base w' v l vss:=by
 refine⟨h.lv,h.own.kept hg ?_,fun i a b=>?_⟩
 ·cases hv:v.ownBlock with
  | none=>exact .inl rfl
  | some k=>
   refine .inr (fun e=>?_);have:=(h.own.lt k hv).1;have:=hr k e.symm;omega
 refine((h.kid i a b).keep fun g o c=>?_).mono fun g c=>⟨c.1,zT c.2.1 hg.size,c.2.2⟩
 refine vP (hg.block g c.2.1 (fun e=>?_));have:=hr g e.symm;have:=c.1;omega
theorem Qs.put{base:Nat}{w w':World}{v v':Value}{l:List Q}{q:Q}{vss:List (List Value)}{u:List Value}(h:Qs base w v l vss)(hq:QF w (Kin base w v) q u)
  (hp:w'.ownsRow base 60 4 v' (l.length+1) (vss.flatten++u)) (hg:w.grownBy w' v.ownBlock) (hv:v'.ownBlock=v.ownBlock∨v'.ownBlock=some w.heap.size):Qs base w' v' (l ++ [q]) (vss ++ [u]):=by
 have c:∀(q:Q) (u:List Value),QF w (Kin base w v) q u→QF w' (Kin base w' v') q u:=fun q u hq=>by
  refine(hq.keep fun g o d=>?_).mono fun g d=>⟨d.1,zT d.2.1 hg.size,fun e=>?_⟩
  ·exact vP (hg.block g d.2.1 (fun e=>d.2.2 e.symm))
  rcases hv with hv|hv
  ·exact d.2.2 (hv.symm.trans e)
  have k:some w.heap.size=some g:=hv.symm.trans e;injection k with k;have:=d.2.1;omega
 refine⟨by simp[h.lv],?_,fun i a b=>?_⟩
 ·rw[List.flatten_append,zJ]
  simpa using hp
 by_cases f:i<l.length
 ·rw[zl f,zl (by rw[h.lv];exact f)];exact c _ _ (h.kid i f (by rw[h.lv];exact f))
 have j:i=l.length:=by simp at a;omega
 subst j;rw[zn jo,zn (by rw[h.lv];omega)];simp only[Nat.sub_self,h.lv,List.getElem_cons_zero];exact c _ _ hq
theorem Qs.query{base:Nat}{w:World}{v:Value}{l:List Q}{vss:List (List Value)}(h:Qs base w v l vss)(k:Int):∃C d,v=.slice C l.length d ∧
  QF w (fun b=>base≤b∧b<w.heap.size) (.mk k ByteArray.empty [] l) [.int .i64 k,.string ByteArray.empty,.slice none 0 0,.slice C l.length d]:=by
 obtain⟨C,d,rfl,_⟩:=fT h.own;exact⟨C,d,rfl,.mk vss rfl (by simpa using ReadsS.none_) rfl h.lv h.four ((ReadsS.of_own h.own).mono fun b e=>⟨e.1,e.2.1⟩) fun i a b=>(h.kid i a b).mono fun g c=>⟨c.1,c.2.1⟩⟩
theorem Qs.first{base:Nat}{w:World}{v:Value}{q:Q}{vss:List (List Value)}(h:Qs base w v [q] vss):∃b d A n c C m d',v=.slice (some ⟨b,0,none⟩) 1 d∧b<w.heap.size∧base≤b ∧
  w.cell? ⟨b,0,none⟩=some (.int .i64 q.kind)∧w.cell? ⟨b,1,none⟩=some (.string q.name)∧w.cell? ⟨b,2,none⟩=some (.slice A n c)∧w.cell? ⟨b,3,none⟩=some (.slice C m d') ∧
  QF w (fun b=>base≤b∧b<w.heap.size) q [.int .i64 q.kind,.string q.name,.slice A n c,.slice C m d']:=by
 obtain⟨D,d,rfl,_⟩:=fT h.own;have j:=h.lv;obtain⟨u,rfl⟩:∃u,vss=[u]:=List.length_eq_one_iff.1 j;have k:=(h.kid 0 jz jz).mono (S':=fun b=>base≤b∧b<w.heap.size) fun g f=>⟨f.1,f.2.1⟩
 simp only[List.getElem_cons_zero]at k;obtain⟨A,n,c,C,m,d',rfl⟩:=k.four;have f:=ReadsS.of_own h.own;obtain⟨b,o,e,l,i⟩:=f.2 jz
 have s:o=0:=by
  rcases h.own.2 with⟨a,B⟩|⟨g,r,p,a,_⟩
  ·simp at B
  injection a with a;rw[e]at a;injection a with a;injection a
 subst s;subst e;have t:=i 0 (.int .i64 q.kind) rfl;have y:=i 1 (.string q.name) rfl;have x:=i 2 (.slice A n c) rfl;have z:=i 3 (.slice C m d') rfl;exact⟨b,d,A,n,c,C,m,d',rfl,l.2.1,l.1,t,y,x,z,k⟩
theorem fV{w w1 w2:World}{row:Option Nat}(h:w.grownBy w1 row)(k:w1.grownBy w2 row):w.grownBy w2 row:=
 ⟨k.os.trans h.os,k.tape.trans h.tape,k.output.trans h.output,zY h.size k.size,fun i a b=>(k.block i (zT a h.size) b).trans (h.block i a b)⟩
theorem lT{w w1 w2:World}{row row2:Option Nat}(h:w.grownBy w1 row)(k:w1.grownBy w2 row2)(hn:∀b,row2=some b→w.heap.size≤b):w.grownBy w2 row:=
 ⟨k.os.trans h.os,k.tape.trans h.tape,k.output.trans h.output,zY h.size k.size,fun i a c=>(k.block i (zT a h.size) (fun e=>by have:=hn i e.symm;omega)).trans (h.block i a c)⟩
theorem EO(w:World)(row:Option Nat):w.grownBy w row:=⟨rfl,rfl,rfl,zG _,fun _ _ _=>rfl⟩
theorem xx(w:World)(g:Nat)(i:Nat)(u:Value):w.grownBy (w.setCell ⟨g,i,none⟩ u) (some g):=
 ⟨rfl,rfl,rfl,by simp[World.setCell],fun k _ a=>vN _ _ _ _ (fun e=>a (by rw[e]))⟩
theorem xO{w w1 w2:World}{g:Nat}(h:zWW w w1)(k:w1.grownBy w2 (some g))(hg:w.heap.size≤g):zWW w w2:=
 h.grown k h.size (fun b e=>by injection e with e;omega)
end Qp
end Go.Proofs.YtmomjpolkkbhnaaGreat
