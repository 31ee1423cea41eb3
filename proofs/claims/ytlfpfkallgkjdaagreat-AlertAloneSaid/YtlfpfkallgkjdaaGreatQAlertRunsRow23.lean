/- The reference's runes: more, row, Decode, by the same plain words. -/
import Derived.Test.YtlfpfkallgkjdaaGreatQAlertRunsRow11
import Derived.Test.YtlfpfkallgkjdaaGreatQAlertRunsRow0
set_option maxRecDepth 20000
section
namespace Go.Proofs.YtlfpfkallgkjdaaGreat.Ut
open Go.RowKit
theorem more_no (s:ByteArray) (p n:Nat) (w:World) (h:s.size≤p):Calls Tryz.prog 194 #[.string s,.int .i64 (p:Int),.int .i64 (n:Int)] w fun e w'=>e=.returned (.tuple #[.int .i64 0,.bool false])∧w=w':=by
 have h1:(s.size:Int)≤(p:Int):=by omega
 go_enter Tryz.func194,Tryz.ntmps194
 go_wp2
 go_ret2
 exact ⟨rfl,rfl⟩
theorem more_not (s:ByteArray) (p n m:Nat) (w:World) (h:p<s.size) (hm:(s[p]).toNat=m) (hc:¬ m / 64=2) (h256:m<256):Calls Tryz.prog 194 #[.string s,.int .i64 (p:Int),.int .i64 (n:Int)] w fun e w'=>e=.returned (.tuple #[.int .i64 0,.bool false])∧w=w':=by
 have h1:¬ (s.size:Int)≤(p:Int):=by omega
 have h2:¬ ((m:Int) / 64=2):=by omega
 go_enter Tryz.func194,Tryz.ntmps194
 go_wp2
 go_ret2
 exact ⟨rfl,rfl⟩
theorem more_yes (s:ByteArray) (p n m:Nat) (w:World) (h:p<s.size) (hm:(s[p]).toNat=m) (hc:m / 64=2) (h256:m<256) (hn:n<1000000000):Calls Tryz.prog 194 #[.string s,.int .i64 (p:Int),.int .i64 (n:Int)] w fun e w'=>e=.returned (.tuple #[.int .i64 ((n * 64+m % 64:Nat):Int),.bool true])∧w=w':=by
 have h1:¬ (s.size:Int)≤(p:Int):=by omega
 have h2:((m:Int) / 64=2):=by omega
 go_enter Tryz.func194,Tryz.ntmps194
 go_wp2
 go_ret2
 exact ⟨by go_num,rfl⟩
theorem lo1 (r:Int) (h:(65≤r∧r≤90)∨(192≤r∧r≤222∧r≠215)∨(913≤r∧r≤939∧r≠930)∨(1040≤r∧r≤1071)):r+32=lower r:=by unfold lower; rw [if_pos h]
theorem lo2 (r:Int) (h : 1024≤r∧r≤1039):r+80=lower r:=by unfold lower; rw [if_neg (by omega),if_pos h]
theorem lo3 (r:Int) (h:¬ ((65≤r∧r≤90)∨(192≤r∧r≤222∧r≠215)∨(913≤r∧r≤939∧r≠930)∨(1040≤r∧r≤1071))) (h2:¬ (1024≤r∧r≤1039)):r=lower r:=by unfold lower; rw [if_neg h,if_neg h2]
set_option maxHeartbeats 1600000 in
theorem lower_ref (r:Int) (w:World):Calls Tryz.prog 170 #[.int .i64 r] w fun e w'=>e=.returned (.int .i64 (lower r))∧w=w':=by
 go_enter Tryz.func170,Tryz.ntmps170
 go_wp2
 all_goals
  go_ret
  refine ⟨congrArg (fun x=>Ending.returned (Value.int .i64 x)) ?_,rfl⟩
  try simp only [bne_iff_ne,ne_eq,bne_eq_false_iff_eq] at *
  first | exact lo1 r (by omega) | exact lo2 r (by omega) | exact lo3 r (by omega) (by omega)
def rowOk (t:List UInt8) (k:Nat):Bool:=decide (k - 1≤t.length) && (t.take (k - 1)).all cont
def rowOf (m:Nat) (t:List UInt8) (k:Nat):Nat:=if rowOk t k then acc m (t.take (k - 1)) else 0
theorem more_any (s:ByteArray) (p n:Nat) (w:World) (hn:n<1000000000):Calls Tryz.prog 194 #[.string s,.int .i64 (p:Int),.int .i64 (n:Int)] w fun e w'=>w=w' ∧
  ((∃ h:p<s.size,cont s[p]=true∧e=.returned (.tuple #[.int .i64 ((n * 64+(s[p]).toNat % 64:Nat):Int),.bool true]))∨(¬ (∃ h:p<s.size,cont s[p]=true)∧e=.returned (.tuple #[.int .i64 0,.bool false]))):=by
 by_cases h:p<s.size
 ·have h256:=(s[p]).toNat_lt
  by_cases hc:(s[p]).toNat / 64=2
  ·refine (more_yes s p n _ w h rfl hc h256 hn).mono ?_
   rintro e w' ⟨rfl,rfl⟩
   exact ⟨rfl,Or.inl ⟨h,by simp [cont,hc],rfl⟩⟩
  ·refine (more_not s p n _ w h rfl hc h256).mono ?_
   rintro e w' ⟨rfl,rfl⟩
   exact ⟨rfl,Or.inr ⟨fun ⟨h',h2⟩=>hc (by simpa [cont] using h2),rfl⟩⟩
 ·refine (more_no s p n w (by omega)).mono ?_
  rintro e w' ⟨rfl,rfl⟩
  exact ⟨rfl,Or.inr ⟨fun ⟨h',_⟩=>h h',rfl⟩⟩
theorem take_at (s:ByteArray) (k j:Nat) (hj : 1≤j) (h:k+j<s.size):(s.data.toList.drop (k+1)).take j=(s.data.toList.drop (k+1)).take (j - 1) ++ [s[k+j]]:=by
 obtain ⟨i,rfl⟩:∃ i,j=i+1:=⟨j - 1,by omega⟩
 have hl:i<(s.data.toList.drop (k+1)).length:=by rw [List.length_drop,bsize]; omega
 rw [List.take_succ_eq_append_getElem hl,Nat.add_sub_cancel]
 congr 2
 rw [List.getElem_drop,Array.getElem_toList]
 have:k+1+i=k+(i+1):=by omega
 simp only [this]
 rfl
theorem row_more (s:ByteArray) (k j m:Nat) (hj : 1≤j) (h:k+j<s.size) (hc:cont s[k+j]=true) (hok:rowOk (s.data.toList.drop (k+1)) j=true) :
  rowOk (s.data.toList.drop (k+1)) (j+1)=true∧acc m ((s.data.toList.drop (k+1)).take j)=acc m ((s.data.toList.drop (k+1)).take (j - 1)) * 64+(s[k+j]).toNat % 64:=by
 have ht:=take_at s k j hj h
 refine ⟨?_,by rw [ht,acc_snoc]⟩
 simp only [rowOk,Bool.and_eq_true,decide_eq_true_eq,Nat.add_sub_cancel] at hok ⊢
 refine ⟨by rw [List.length_drop,bsize]; omega,?_⟩
 rw [ht,List.all_append,hok.2]
 simp [hc]
theorem row_stop (s:ByteArray) (k j z:Nat) (hj : 1≤j) (hz:j<z) (hno:¬ ∃ h:k+j<s.size,cont s[k+j]=true):rowOk (s.data.toList.drop (k+1)) z=false:=by
 cases hr:rowOk (s.data.toList.drop (k+1)) z with
 | false=>rfl
 | true =>
  exfalso
  simp only [rowOk,Bool.and_eq_true,decide_eq_true_eq] at hr
  have hl:=hr.1
  rw [List.length_drop,bsize] at hl
  have h:k+j<s.size:=by omega
  refine hno ⟨h,List.all_eq_true.1 hr.2 _ ?_⟩
  have ht:=take_at s k j hj h
  have:s[k+j]∈(s.data.toList.drop (k+1)).take j:=by rw [ht]; simp
  exact (List.take_subset_take_left _ (by omega)) this
set_option maxHeartbeats 1600000 in
theorem row_any (s:ByteArray) (k m z:Nat) (w:World) (hk:k<s.size) (hs:s.size≤140737488351232) (hm:m<32) (hz : 1≤z) (hz4:z≤4):Calls Tryz.prog 184 #[.string s,.int .i64 (k:Int),.int .i64 (m:Int),.int .i64 (z:Int)] w fun e w'=>e=.returned (.tuple #[.int .i64 (rowOf m (s.data.toList.drop (k+1)) z:Nat),.bool (rowOk (s.data.toList.drop (k+1)) z)])∧w=w':=by
 have r0:rowOk (s.data.toList.drop (k+1)) 1=true:=by simp [rowOk]
 have R0:=zh r0
 have hyes:=fun (j:Nat) (hj : 1≤j) (h:k+j<s.size) (hc:cont s[k+j]=true) (hok:rowOk (s.data.toList.drop (k+1)) j=true)=>row_more s k j m hj h hc hok
 have hno:=fun (j:Nat) (hj : 1≤j) (hz:j<z) (h:¬ ∃ h:k+j<s.size,cont s[k+j]=true)=>row_stop s k j z hj hz h
 have hlt:=fun (j:Nat) (hj:j≤4)=>acc_lt m ((s.data.toList.drop (k+1)).take (j - 1)) hm (by rw [List.length_take]; omega)
 have hof:rowOf m (s.data.toList.drop (k+1)) z=if rowOk (s.data.toList.drop (k+1)) z then acc m ((s.data.toList.drop (k+1)).take (z - 1)) else 0:=rfl
 have Hof:=zh hof
 have Hyes:=zh hyes
 have Hno:=zh hno
 have Hlt:=zh hlt
 clear r0 hyes hno hlt hof
 go_enter Tryz.func184,Tryz.ntmps184
 go_wp2
 go_loopw [2,10] (fun n i wr=>∃ j:Nat,1≤j∧j≤z∧i=.int .i64 j∧n=.int .i64 (acc m ((s.data.toList.drop (k+1)).take (j - 1)):Nat)∧Hid (rowOk (s.data.toList.drop (k+1)) j=true)∧wr=w)
  (fun _ i _=>z - (intOf i).toNat)
 case atStart=>exact ⟨1,by omega,by omega,rfl,rfl,R0,rfl⟩
 case round =>
  obtain ⟨j,hj1,hjz,rfl,rfl,Hok,rfl⟩:=hrel
  by_cases hjl:j<z
  ·have hal:=Hlt.out j (by omega)
   have c:=more_any s (k+j) (acc m ((s.data.toList.drop (k+1)).take (j - 1))) wr (by omega)
   have Hst:=zh (Hno.out j hj1 hjl)
   have Hgo:=zh (fun h hc=>(Hyes.out j hj1 h hc Hok.out))
   generalize acc m ((s.data.toList.drop (k+1)).take (j - 1))=a at *
   go_wp2_with fail
   refine c.mono ?_
   rintro e w' ⟨rfl,h⟩
   rcases h with ⟨h,hc,rfl⟩ | ⟨h,rfl⟩
   ·have Hg:=zh (Hgo.out h hc)
    clear hc Hgo Hst
    go_wp2
    go_roundw
    case rel=>exact ⟨j+1,by omega,by omega,by go_num,by rw [Nat.add_sub_cancel,Hg.out.2]; go_num,zh Hg.out.1,trivial⟩
    case measure=>simp [intOf]; omega
   ·have Hg:=zh (Hst.out h)
    clear h Hgo Hst
    go_wp2
    go_ret2
    exact ⟨by rw [Hof.out,Hg.out]; rfl,rfl⟩
  ·obtain rfl:j=z:=by omega
   generalize hac:acc m ((s.data.toList.drop (k+1)).take (j - 1))=a at *
   have Hac:=zh hac
   clear hac
   go_wp2
   go_ret2
   exact ⟨by rw [Hof.out,Hok.out,if_pos rfl]; rfl,rfl⟩
theorem fits_row (m:Nat) (t:List UInt8) (k lo hi:Nat):fits m t k lo hi=(rowOk t k && (decide (lo≤rowOf m t k) && (decide (rowOf m t k≤hi) && !(decide (55296≤rowOf m t k) && decide (rowOf m t k≤57343))))):=by
 unfold fits rowOf
 cases h:rowOk t k with
 | true =>
  rw [if_pos rfl]
  unfold rowOk at h
  rw [Bool.and_eq_true] at h
  rw [h.1,h.2,Bool.true_and]
 | false =>
  rw [Bool.false_and]
  unfold rowOk at h
  rw [← Bool.and_assoc,h,Bool.false_and]
theorem form_row (m:Nat) (t:List UInt8) (k lo hi a:Nat) (ok:Bool) (ha:rowOf m t k=a) (ho:rowOk t k=ok) :
  (ok=true→lo≤a→a≤hi→¬ (55296≤a∧a≤57343)→form m t k lo hi=(a,k))∧((ok=false∨a<lo∨hi<a∨(55296≤a∧a≤57343))→form m t k lo hi=(65533,1)):=by
 have hf:=fits_row m t k lo hi
 rw [ha,ho] at hf
 refine ⟨fun h1 h2 h3 h4=>?_,fun h=>?_⟩
 ·have hff:fits m t k lo hi=true:=by
   rw [hf]; simp only [Bool.and_eq_true,decide_eq_true_eq,Bool.not_eq_true',Bool.and_eq_false_iff,decide_eq_false_iff_not]
   exact ⟨h1,h2,h3,by omega⟩
  unfold form
  rw [if_pos hff]
  have:rowOf m t k=acc m (t.take (k - 1)):=by unfold rowOf; rw [if_pos (by rw [ho]; exact h1)]
  rw [← ha,this]
 ·have hff:fits m t k lo hi=false:=by
   cases hx:fits m t k lo hi with
   | false=>rfl
   | true =>
    exfalso
    rw [hf] at hx
    simp only [Bool.and_eq_true,decide_eq_true_eq,Bool.not_eq_true',Bool.and_eq_false_iff,decide_eq_false_iff_not] at hx
    obtain ⟨x1,x2,x3,x4⟩:=hx
    rcases h with h | h | h | h
    ·rw [h] at x1; cases x1
    ·omega
    ·omega
    ·omega
  unfold form
  rw [if_neg (by rw [hff]; decide)]
theorem row_lt (m M:Nat) (t:List UInt8) (k:Nat) (hm:m<M) (hM:M≤32) (hk : 1≤k) (hk4:k≤4):rowOf m t k<M * 64 ^ (k - 1):=by
 unfold rowOf
 split
 ·have hl:(t.take (k - 1)).length≤k - 1:=by rw [List.length_take]; omega
  have hp : 0<64 ^ (k - 1):=Nat.pow_pos (by decide)
  have key:∀ l:List UInt8,l.length≤k - 1→acc m l<M * 64 ^ (k - 1):=by
   intro l hl
   have h2:k - 1=0∨k - 1=1∨k - 1=2∨k - 1=3:=by omega
   match l,hl with
   | [],_=>simp only [acc,List.foldl_nil]; rcases h2 with h | h | h | h <;> rw [h] <;> omega
   | [a],hl=>simp only [acc,List.foldl_cons,List.foldl_nil]; simp only [List.length_cons,List.length_nil] at hl; rcases h2 with h | h | h | h <;> rw [h] at hl ⊢ <;> omega
   | [a,b],hl=>simp only [acc,List.foldl_cons,List.foldl_nil]; simp only [List.length_cons,List.length_nil] at hl; rcases h2 with h | h | h | h <;> rw [h] at hl ⊢ <;> omega
   | [a,b,c],hl=>simp only [acc,List.foldl_cons,List.foldl_nil]; simp only [List.length_cons,List.length_nil] at hl; rcases h2 with h | h | h | h <;> rw [h] at hl ⊢ <;> omega
   | a :: b :: c :: d :: l,hl=>simp only [List.length_cons] at hl; omega
  exact key _ hl
 ·exact Nat.mul_pos (by omega) (Nat.pow_pos (by decide))
end Go.Proofs.YtlfpfkallgkjdaaGreat.Ut
end

section
namespace Go.Proofs.YtlfpfkallgkjdaaGreat.Ut
open Go.RowKit
set_option maxRecDepth 20000 in
set_option maxHeartbeats 1600000 in
theorem decr_2 (s:ByteArray) (k m:Nat) (w:World) (hk:k<s.size) (hs:s.size≤140737488351232) (hm:(s[k]).toNat=m) (h6:m / 32=6) :
  Calls Tryz.prog 168 #[.string s,.int .i64 (k:Int)] w fun e w'=>e=.returned (.tuple #[.int .i64 ((form (m % 32) (s.data.toList.drop (k+1)) 2 128 2047).1:Nat),.int .i64 ((form (m % 32) (s.data.toList.drop (k+1)) 2 128 2047).2:Nat)])∧w=w':=by
 have h0:¬ (k:Int)<0:=by omega
 have h1:¬ (s.size:Int)≤(k:Int):=by omega
 have h2:¬ (m:Int)<128:=by omega
 have h3:(m:Int) / 32=6:=by omega
 have h4:¬ (m:Int) / 16=14:=by omega
 have h5:¬ (m:Int) / 8=30:=by omega
 have c:=row_any s k (m % 32) 2 w hk hs (by omega) (by omega) (by omega)
 have hlt:=row_lt (m % 32) 32 (s.data.toList.drop (k+1)) 2 (by omega) (by omega) (by omega) (by omega)
 have hfo:=form_row (m % 32) (s.data.toList.drop (k+1)) 2 128 2047 _ _ rfl rfl
 rw [show ((m % 32:Nat):Int)=(m:Int) % 32 from by omega] at c
 generalize form (m % 32) (s.data.toList.drop (k+1)) 2 128 2047=F at *
 generalize rowOf (m % 32) (s.data.toList.drop (k+1)) 2=a at *
 generalize rowOk (s.data.toList.drop (k+1)) 2=ok at *
 clear h6
 by_cases hcase:ok=true∧128≤a
 ·obtain ⟨rfl,h128⟩:=hcase
  have hF:=hfo.1 rfl h128 (by omega) (by omega)
  subst hF
  have h129:¬ (a:Int)<128:=by omega
  clear hfo
  go_enter Tryz.func168,Tryz.ntmps168
  go_wp2_with fail
  refine c.mono ?_
  rintro e w1 ⟨rfl,rfl⟩
  go_wp2
  go_ret2
  exact ⟨rfl,rfl⟩
 ·have hF:=hfo.2 (by rcases Bool.eq_false_or_eq_true ok with h | h; (· exact Or.inr (Or.inl (by have:¬ 128≤a:=fun h'=>hcase ⟨h,h'⟩; omega))); exact Or.inl h)
  subst hF
  clear hfo
  rcases Bool.eq_false_or_eq_true ok with rfl | rfl
  ·have h129:(a:Int)<128:=by have:¬ 128≤a:=fun h'=>hcase ⟨rfl,h'⟩; omega
   clear hcase
   go_enter Tryz.func168,Tryz.ntmps168
   go_wp2_with fail
   refine c.mono ?_
   rintro e w1 ⟨rfl,rfl⟩
   go_wp2
   go_ret2
   exact ⟨rfl,rfl⟩
  ·clear hcase
   go_enter Tryz.func168,Tryz.ntmps168
   go_wp2_with fail
   refine c.mono ?_
   rintro e w1 ⟨rfl,rfl⟩
   go_wp2
   go_ret2
   exact ⟨rfl,rfl⟩
set_option maxRecDepth 20000 in
set_option maxHeartbeats 1600000 in
theorem decr_3 (s:ByteArray) (k m:Nat) (w:World) (hk:k<s.size) (hs:s.size≤140737488351232) (hm:(s[k]).toNat=m) (h6:m / 16=14) :
  Calls Tryz.prog 168 #[.string s,.int .i64 (k:Int)] w fun e w'=>e=.returned (.tuple #[.int .i64 ((form (m % 16) (s.data.toList.drop (k+1)) 3 2048 65535).1:Nat),.int .i64 ((form (m % 16) (s.data.toList.drop (k+1)) 3 2048 65535).2:Nat)])∧w=w':=by
 have h0:¬ (k:Int)<0:=by omega
 have h1:¬ (s.size:Int)≤(k:Int):=by omega
 have h2:¬ (m:Int)<128:=by omega
 have h3:¬ (m:Int) / 32=6:=by omega
 have h4:(m:Int) / 16=14:=by omega
 have h5:¬ (m:Int) / 8=30:=by omega
 have c:=row_any s k (m % 16) 3 w hk hs (by omega) (by omega) (by omega)
 have hlt:=row_lt (m % 16) 16 (s.data.toList.drop (k+1)) 3 (by omega) (by omega) (by omega) (by omega)
 have hfo:=form_row (m % 16) (s.data.toList.drop (k+1)) 3 2048 65535 _ _ rfl rfl
 rw [show ((m % 16:Nat):Int)=(m:Int) % 16 from by omega] at c
 generalize form (m % 16) (s.data.toList.drop (k+1)) 3 2048 65535=F at *
 generalize rowOf (m % 16) (s.data.toList.drop (k+1)) 3=a at *
 generalize rowOk (s.data.toList.drop (k+1)) 3=ok at *
 clear h6
 have Hlt:Hid (a≤65535):=zh (by omega)
 clear hlt
 rcases Bool.eq_false_or_eq_true ok with rfl | rfl
 ·by_cases g1 : 2048≤a
  ·have g1':¬ (a:Int)<2048:=by omega
   by_cases g2 : 55296≤a
   ·by_cases g3:a≤57343
    ·have hF:=hfo.2 (Or.inr (Or.inr (Or.inr ⟨g2,g3⟩)))
     subst hF
     have g2':¬ (a:Int)<55296:=by omega
     have g3':¬ (57343:Int)<a:=by omega
     clear hfo g1 g2 g3
     try dsimp only
     generalize (a:Int)=z at *
     go_enter Tryz.func168,Tryz.ntmps168
     go_wp2_with fail
     refine c.mono ?_
     rintro e w1 ⟨rfl,rfl⟩
     go_wp2
     go_ret2
     exact ⟨rfl,rfl⟩
    ·have hF:=hfo.1 rfl g1 Hlt.out (by omega)
     subst hF
     have g2':¬ (a:Int)<55296:=by omega
     have g3':(57343:Int)<a:=by omega
     clear hfo g1 g2 g3
     try dsimp only
     generalize (a:Int)=z at *
     go_enter Tryz.func168,Tryz.ntmps168
     go_wp2_with fail
     refine c.mono ?_
     rintro e w1 ⟨rfl,rfl⟩
     go_wp2
     go_ret2
     exact ⟨rfl,rfl⟩
   ·have hF:=hfo.1 rfl g1 Hlt.out (by omega)
    subst hF
    have g2':(a:Int)<55296:=by omega
    clear hfo g1 g2
    try dsimp only
    generalize (a:Int)=z at *
    go_enter Tryz.func168,Tryz.ntmps168
    go_wp2_with fail
    refine c.mono ?_
    rintro e w1 ⟨rfl,rfl⟩
    go_wp2
    go_ret2
    exact ⟨rfl,rfl⟩
  ·have hF:=hfo.2 (Or.inr (Or.inl (by omega)))
   subst hF
   have g1':(a:Int)<2048:=by omega
   clear hfo g1
   try dsimp only
   generalize (a:Int)=z at *
   go_enter Tryz.func168,Tryz.ntmps168
   go_wp2_with fail
   refine c.mono ?_
   rintro e w1 ⟨rfl,rfl⟩
   go_wp2
   go_ret2
   exact ⟨rfl,rfl⟩
 ·have hF:=hfo.2 (Or.inl rfl)
  subst hF
  clear hfo
  try dsimp only
  generalize (a:Int)=z at *
  go_enter Tryz.func168,Tryz.ntmps168
  go_wp2_with fail
  refine c.mono ?_
  rintro e w1 ⟨rfl,rfl⟩
  go_wp2
  go_ret2
  exact ⟨rfl,rfl⟩
set_option maxRecDepth 20000 in
set_option maxHeartbeats 1600000 in
theorem decr_4 (s:ByteArray) (k m:Nat) (w:World) (hk:k<s.size) (hs:s.size≤140737488351232) (hm:(s[k]).toNat=m) (h6:m / 8=30) :
  Calls Tryz.prog 168 #[.string s,.int .i64 (k:Int)] w fun e w'=>e=.returned (.tuple #[.int .i64 ((form (m % 8) (s.data.toList.drop (k+1)) 4 65536 1114111).1:Nat),.int .i64 ((form (m % 8) (s.data.toList.drop (k+1)) 4 65536 1114111).2:Nat)])∧w=w':=by
 have h0:¬ (k:Int)<0:=by omega
 have h1:¬ (s.size:Int)≤(k:Int):=by omega
 have h2:¬ (m:Int)<128:=by omega
 have h3:¬ (m:Int) / 32=6:=by omega
 have h4:¬ (m:Int) / 16=14:=by omega
 have h5:(m:Int) / 8=30:=by omega
 have c:=row_any s k (m % 8) 4 w hk hs (by omega) (by omega) (by omega)
 have hfo:=form_row (m % 8) (s.data.toList.drop (k+1)) 4 65536 1114111 _ _ rfl rfl
 rw [show ((m % 8:Nat):Int)=(m:Int) % 8 from by omega] at c
 generalize form (m % 8) (s.data.toList.drop (k+1)) 4 65536 1114111=F at *
 generalize rowOf (m % 8) (s.data.toList.drop (k+1)) 4=a at *
 generalize rowOk (s.data.toList.drop (k+1)) 4=ok at *
 clear h6
 rcases Bool.eq_false_or_eq_true ok with rfl | rfl
 ·by_cases g1 : 65536≤a
  ·have g1':¬ (a:Int)<65536:=by omega
   by_cases g2:a≤1114111
   ·have hF:=hfo.1 rfl g1 g2 (by omega)
    subst hF
    have g2':¬ (1114111:Int)<a:=by omega
    clear hfo g1 g2
    try dsimp only
    generalize (a:Int)=z at *
    go_enter Tryz.func168,Tryz.ntmps168
    go_wp2_with fail
    refine c.mono ?_
    rintro e w1 ⟨rfl,rfl⟩
    go_wp2
    go_ret2
    exact ⟨rfl,rfl⟩
   ·have hF:=hfo.2 (Or.inr (Or.inr (Or.inl (by omega))))
    subst hF
    have g2':(1114111:Int)<a:=by omega
    clear hfo g1 g2
    try dsimp only
    generalize (a:Int)=z at *
    go_enter Tryz.func168,Tryz.ntmps168
    go_wp2_with fail
    refine c.mono ?_
    rintro e w1 ⟨rfl,rfl⟩
    go_wp2
    go_ret2
    exact ⟨rfl,rfl⟩
  ·have hF:=hfo.2 (Or.inr (Or.inl (by omega)))
   subst hF
   have g1':(a:Int)<65536:=by omega
   clear hfo g1
   try dsimp only
   generalize (a:Int)=z at *
   go_enter Tryz.func168,Tryz.ntmps168
   go_wp2_with fail
   refine c.mono ?_
   rintro e w1 ⟨rfl,rfl⟩
   go_wp2
   go_ret2
   exact ⟨rfl,rfl⟩
 ·have hF:=hfo.2 (Or.inl rfl)
  subst hF
  clear hfo
  try dsimp only
  generalize (a:Int)=z at *
  go_enter Tryz.func168,Tryz.ntmps168
  go_wp2_with fail
  refine c.mono ?_
  rintro e w1 ⟨rfl,rfl⟩
  go_wp2
  go_ret2
  exact ⟨rfl,rfl⟩
theorem decr_out (s:ByteArray) (a:Int) (w:World) (h:a<0∨(s.size:Int)≤a) :
  Calls Tryz.prog 168 #[.string s,.int .i64 a] w fun e w'=>e=.returned (.tuple #[.int .i64 0,.int .i64 0])∧w=w':=by
 by_cases h0:a<0
 ·clear h
  go_enter Tryz.func168,Tryz.ntmps168
  go_wp2
  go_ret2
  exact ⟨rfl,rfl⟩
 ·have h1:(s.size:Int)≤a:=by omega
  clear h
  go_enter Tryz.func168,Tryz.ntmps168
  go_wp2
  go_ret2
  exact ⟨rfl,rfl⟩
theorem decr_low (s:ByteArray) (k m:Nat) (w:World) (hk:k<s.size) (hm:(s[k]).toNat=m) (h:m<128) :
  Calls Tryz.prog 168 #[.string s,.int .i64 (k:Int)] w fun e w'=>e=.returned (.tuple #[.int .i64 (m:Int),.int .i64 1])∧w=w':=by
 have h0:¬ (k:Int)<0:=by omega
 have h1:¬ (s.size:Int)≤(k:Int):=by omega
 have h2:(m:Int)<128:=by omega
 go_enter Tryz.func168,Tryz.ntmps168
 go_wp2
 go_ret2
 exact ⟨rfl,rfl⟩
theorem decr_none (s:ByteArray) (k m:Nat) (w:World) (hk:k<s.size) (hm:(s[k]).toNat=m) (h128 : 128≤m) (h256:m<256) (h6:¬ m / 32=6) (h14:¬ m / 16=14) (h30:¬ m / 8=30) :
  Calls Tryz.prog 168 #[.string s,.int .i64 (k:Int)] w fun e w'=>e=.returned (.tuple #[.int .i64 65533,.int .i64 1])∧w=w':=by
 have h0:¬ (k:Int)<0:=by omega
 have h1:¬ (s.size:Int)≤(k:Int):=by omega
 have h2:¬ (m:Int)<128:=by omega
 have h3:¬ (m:Int) / 32=6:=by omega
 have h4:¬ (m:Int) / 16=14:=by omega
 have h5:¬ (m:Int) / 8=30:=by omega
 go_enter Tryz.func168,Tryz.ntmps168
 go_wp2
 go_ret2
 exact ⟨rfl,rfl⟩
theorem decr_any (s:ByteArray) (a:Int) (w:World) (hs:s.size≤140737488351232) :
  Calls Tryz.prog 168 #[.string s,.int .i64 a] w fun e w'=>e=.returned (.tuple #[.int .i64 ((decAt s a).1:Nat),.int .i64 ((decAt s a).2:Nat)])∧w=w':=by
 by_cases h:a<0∨(s.size:Int)≤a
 ·have e:decAt s a=(0,0):=by
   unfold decAt
   by_cases h0:a<0
   ·rw [if_pos h0]
   ·rw [if_neg h0,drop_out s a.toNat (by omega)]; rfl
  rw [e]
  exact decr_out s a w h
 ·obtain ⟨k,rfl⟩:=Int.eq_ofNat_of_zero_le (show 0≤a by omega)
  have hk:k<s.size:=by omega
  have e:decAt s (k:Int)=dec (s[k] :: s.data.toList.drop (k+1)):=by
   unfold decAt
   rw [if_neg (by omega),Int.toNat_natCast,drop_cons s k hk]
  rw [e,dec_cons]
  by_cases h1:(s[k]).toNat<128
  ·rw [if_pos h1]; exact decr_low s k _ w hk rfl h1
  ·rw [if_neg h1]
   by_cases h2:(s[k]).toNat / 32=6
   ·rw [if_pos h2]; exact decr_2 s k _ w hk hs rfl h2
   ·rw [if_neg h2]
    by_cases h3:(s[k]).toNat / 16=14
    ·rw [if_pos h3]; exact decr_3 s k _ w hk hs rfl h3
    ·rw [if_neg h3]
     by_cases h4:(s[k]).toNat / 8=30
     ·rw [if_pos h4]; exact decr_4 s k _ w hk hs rfl h4
     ·rw [if_neg h4]; exact decr_none s k _ w hk rfl (by omega) (s[k]).toNat_lt h2 h3 h4
end Go.Proofs.YtlfpfkallgkjdaaGreat.Ut
end
