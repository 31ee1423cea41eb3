/- utf.Decode at every place; all runes of a text. -/
import Derived.Test.YtmomjpolkkbhnaaGreatQModelPagesRow4
import Derived.Test.YtmomjpolkkbhnaaGreatQModelPagesRow2
import Derived.Test.YtmomjpolkkbhnaaGreatQModelPagesRow0
set_option maxRecDepth 20000
section
namespace Go.Proofs.YtmomjpolkkbhnaaGreat.Ut
open Go.RowKit
set_option maxRecDepth 100000 in
set_option maxHeartbeats 1600000 in
theorem dec_none (s:ByteArray) (k m:Nat) (w:World) (hk:k<s.size) (hm:(s[k]).toNat=m) (h128 : 128≤m) (h256:m<256) (h6:¬ m / 32=6) (h14:¬ m / 16=14) (h30:¬ m / 8=30) :
  Calls Tryz.prog 181 #[.string s,.int .i64 (k:Int)] w fun e w'=>e=.returned (.tuple #[.int .i64 65533,.int .i64 1])∧Below w.heap.size w w':=by
 have h0:¬ (k:Int)<0:=by omega
 have h1:¬ (s.size:Int)≤(k:Int):=by omega
 have h2:¬ (m:Int)<128:=by omega
 have hm0:=mask0 m h256
 have hm1:=mask1 m h256
 have hm2:=mask2 m h256
 rw [show decide (m / 32=6)=false from by simp; omega] at hm0
 rw [show decide (m / 16=14)=false from by simp; omega] at hm1
 rw [show decide (m / 8=30)=false from by simp; omega] at hm2
 simp only [Bool.not_false] at hm0 hm1 hm2
 have i0:=idx_f0
 have i1:=idx_f1
 have i2:=idx_f2
 go_enter Tryz.func181,Tryz.ntmps181
 go_wp2_with (go_at_call 201; refine (forms_any _).mono ?_; rintro e w1 ⟨rfl,hb1⟩)
 refine wp_loop_rounds 4 ?_
 rw [rounds_succ]
 go_wp2_with fail
 rw [rounds_succ]
 go_wp2_with fail
 rw [rounds_succ]
 go_wp2_with fail
 rw [rounds_succ]
 go_wp2_with fail
 go_ret2
 exact ⟨rfl,((hb1.alloc hb1.size _).alloc (by have:=hb1.size; simp; omega) _).alloc (by have:=hb1.size; simp; omega) _⟩
theorem decode_any (s:ByteArray) (a:Int) (w:World) (hs:s.size≤140737488351232) :
  Calls Tryz.prog 181 #[.string s,.int .i64 a] w fun e w'=>e=.returned (.tuple #[.int .i64 ((decAt s a).1:Nat),.int .i64 ((decAt s a).2:Nat)])∧Below w.heap.size w w':=by
 by_cases h:a<0∨(s.size:Int)≤a
 ·have e:decAt s a=(0,0):=by
   unfold decAt
   by_cases h0:a<0
   ·rw [if_pos h0]
   ·rw [if_neg h0,drop_out s a.toNat (by omega)]; rfl
  rw [e]
  exact (dec_out s a w h).mono fun _ _ ⟨he,hw⟩=>⟨he,hw ▸ Below.refl _ _⟩
 ·obtain ⟨k,rfl⟩:=Int.eq_ofNat_of_zero_le (show 0≤a by omega)
  have hk:k<s.size:=by omega
  have e:decAt s (k:Int)=dec (s[k] :: s.data.toList.drop (k+1)):=by
   unfold decAt
   rw [if_neg (by omega),Int.toNat_natCast,drop_cons s k hk]
  have h256:=(s[k]).toNat_lt
  rw [e,dec_cons]
  by_cases h1:(s[k]).toNat<128
  ·rw [if_pos h1]
   exact (dec_low s k _ w hk rfl h1).mono fun _ _ ⟨he,hw⟩=>⟨he,hw ▸ Below.refl _ _⟩
  ·rw [if_neg h1]
   by_cases h2:(s[k]).toNat / 32=6
   ·rw [if_pos h2]; exact dec_form0 s k _ w hk rfl (by omega) h256 h2 hs
   ·rw [if_neg h2]
    by_cases h3:(s[k]).toNat / 16=14
    ·rw [if_pos h3]; exact dec_form1 s k _ w hk rfl (by omega) h256 h3 hs
    ·rw [if_neg h3]
     by_cases h4:(s[k]).toNat / 8=30
     ·rw [if_pos h4]; exact dec_form2 s k _ w hk rfl (by omega) h256 h4 hs
     ·rw [if_neg h4]; exact dec_none s k _ w hk rfl (by omega) h256 h2 h3 h4
theorem decAt_nat (s:ByteArray) (k:Nat):decAt s (k:Int)=dec (s.data.toList.drop k):=by
 unfold decAt; rw [if_neg (by omega),Int.toNat_natCast]
theorem int_info:(Tryz.prog.info? 3).map (fun i=>(i.zero,i.size,i.bytes))=some (some (.int .i64 0),1,8):=by kernel_rfl
def rv (l:List Nat):List Value:=l.map (fun r:Nat=>Value.int .i64 (r:Int))
set_option maxHeartbeats 800000 in
theorem runes_any (s:ByteArray) (w:World) (hs:s.size≤4398046511104) :
  Calls Tryz.prog 164 #[.string s] w fun e w'=>∃ v,e=.returned v∧w'.ownsRow w.heap.size 3 1 v (runes s.data.toList).length (rv (runes s.data.toList))∧Below w.heap.size w w':=by
 obtain ⟨i0,hi0,hz0,hz1,hz2⟩:=info_parts int_info
 go_enter Tryz.func164,Tryz.ntmps164
 go_wp2
 go_loopw [3,4] (fun v i wr=>∃ (k:Nat) (l:List Nat),k≤s.size∧i=.int .i64 k∧l.length≤k∧runes s.data.toList=l ++ runes (s.data.toList.drop k)∧wr.ownsRow w.heap.size 3 1 v l.length (rv l)∧Below w.heap.size w wr)
  (fun _ i _=>s.size - (intOf i).toNat)
 case atStart=>exact ⟨0,[],Nat.zero_le _,rfl,by simp,rfl,World.ownsRow_nil _ _ _ _,Below.refl _ _⟩
 case round =>
  obtain ⟨k,l,hk,rfl,hlk,hru,hown,hb⟩:=hrel
  by_cases hlt:k<s.size
  ·have hne:s.data.toList.drop k≠[]:=by rw [drop_cons s k hlt]; simp
   have hsz:=dec_size _ hne
   rw [List.length_drop,bsize] at hsz
   have hrc:=runes_cons _ hne
   rw [hrc,List.drop_drop] at hru
   have c:=decode_any s (k:Int) wr (by omega)
   rw [decAt_nat] at c
   have Hru:=zh hru
   clear hrc hru hne
   generalize dec (s.data.toList.drop k)=d at *
   have hd1:=hsz.1
   have hd2:=hsz.2.1
   have hd4:=hsz.2.2
   clear hsz
   go_wp2_with fail
   refine c.mono ?_
   rintro e w2 ⟨rfl,hb2⟩
   have hbw:=hb.trans (hb2.mono hb.size)
   have hown2:=hown.kept (grow_of_below hb2 none) (by cases hv:u3.ownBlock <;> simp)
   have hsz2:=hbw.size
   go_wp2_with (at_builtin; refine wpList_append_own _ rfl _ _ 27 rfl w.heap.size 3 i0 (.int .i64 0) 1 8 Tryz.underlying27 hi0 hz0 hz1 hz2 rfl (by decide) _ _ _ rfl (hown2.alloc _) ⟨w2.heap.size,0,none⟩ 1 1 [.int .i64 (d.1:Int)] rfl rfl ?c1 ?c2 ?c3 ?c4 ?c5 ?_)
   case c1=>exact World.news_of_block (cs:=#[.int .i64 (d.1:Int)]) (t:=3) (fr:=(0,0)) (heap_alloc_new w2 _)
   case c2=>intro u hu; simp at hu; subst hu; rfl
   case c3=>unfold maxLen; omega
   case c4=>omega
   case c5=>simp; omega
   intro v' w3 hown3 hg3 _
   have hb3:Below w.heap.size w w3:=(hbw.alloc hsz2 _).grown hg3 (by simp; omega) (fun j hj=>(hown2.lt _ hj).1)
   have Hb3:=zh hb3
   have Hown3:=zh hown3
   clear hb3 hown3 hg3 hown2 hbw hown hb
   go_wp2
   go_roundw
   case rel=>exact ⟨k+d.2,l ++ [d.1],by omega,by go_num,by rw [List.length_append]; simp; omega,by rw [Hru.out]; simp,by
     rw [List.length_append]
     have:=Hown3.out
     simpa [rv] using this,Hb3.out⟩
   case measure=>simp [intOf]; omega
  ·have hd0:s.data.toList.drop k=[]:=drop_out s k (by omega)
   rw [hd0,runes_nil,List.append_nil] at hru
   have Hru:=zh hru
   clear hru hd0
   go_wp2
   go_ret
   exact ⟨_,rfl,by rw [Hru.out]; exact hown,hb⟩
end Go.Proofs.YtmomjpolkkbhnaaGreat.Ut
end

section
namespace Go.Proofs.YtmomjpolkkbhnaaGreat.Ut
open Go.RowKit
theorem u8_info:(Tryz.prog.info? 5).map (fun i=>(i.zero,i.size,i.bytes))=some (some (.int .u8 0),1,1):=by kernel_rfl
def bv (l:List UInt8):List Value:=l.map (fun b=>Value.int .u8 (b.toNat:Int))
theorem B_int (n:Nat) (h:n<256):((B n).toNat:Int)=(n:Int):=by rw [B_toNat n h]
theorem bv_len (l:List UInt8):(bv l).length=l.length:=by simp [bv]
theorem bv_append (a b:List UInt8):bv (a ++ b)=bv a ++ bv b:=by simp [bv]
def PutPost (w:World) (base n:Nat) (v:Value) (xs:List Value) (bs:List UInt8) (e:Ending) (w':World):Prop :=
 ∃ v',e=.returned v'∧w'.ownsRow base 5 1 v' (n+bs.length) (xs ++ bv bs)∧w.grownBy w' v.ownBlock
theorem or_all:(∀ y:Fin 32,bits BinOp.or IntKind.u8 192 ((y.val:Nat):Int)=((192+y.val:Nat):Int))∧(∀ y:Fin 64,bits BinOp.or IntKind.u8 128 ((y.val:Nat):Int)=((128+y.val:Nat):Int)) ∧
  (∀ y:Fin 16,bits BinOp.or IntKind.u8 224 ((y.val:Nat):Int)=((224+y.val:Nat):Int))∧(∀ y:Fin 8,bits BinOp.or IntKind.u8 240 ((y.val:Nat):Int)=((240+y.val:Nat):Int)):=by decide +kernel
theorem or128 (y:Nat) (h:y<64):bits BinOp.or IntKind.u8 128 (y:Int)=((128+y:Nat):Int):=or_all.2.1 ⟨y,h⟩
theorem put_end {w w3:World} {base n m:Nat} {v v':Value} {xs news:List Value} {bs:List UInt8} (_hown:w.ownsRow base 5 1 v n xs) (hown3:w3.ownsRow base 5 1 v' (n+m) (xs ++ news)) (hg:(w.alloc (.cells news.toArray 5)).grownBy w3 v.ownBlock) (hnews:news=bv bs∧m=bs.length):PutPost w base n v xs bs (.returned v') w3:=by
 obtain ⟨rfl,rfl⟩:=hnews
 exact ⟨v',rfl,hown3,⟨hg.os,hg.tape,hg.output,Nat.le_trans (by simp) hg.size,fun k hk hne=>(hg.block k (by simp; omega) hne).trans (Below.heap_alloc w _ k hk)⟩⟩
theorem i64_and63 (n:Nat) (h:n<9223372036854775808):bits BinOp.and IntKind.i64 (n:Int) 63=((n % 64:Nat):Int):=by
 have h1:(BitVec.ofInt 64 (n:Int)).toNat=n:=by
  rw [BitVec.ofInt_natCast,BitVec.toNat_ofNat]; exact Nat.mod_eq_of_lt (by omega)
 show IntKind.i64.wrap ((BitVec.ofInt 64 (n:Int) &&& BitVec.ofInt 64 63).toNat:Int)=_
 rw [BitVec.toNat_and,h1,show (BitVec.ofInt 64 63).toNat=63 from by decide,IntKind.wrap_i64]
 have:=Nat.and_two_pow_sub_one_eq_mod n 6
 simp only [show 2 ^ 6 - 1=63 from rfl,show 2 ^ 6=64 from rfl] at this
 rw [this]
 omega
theorem and_or (n:Nat) (z:Int) (h:n<9223372036854775808) (hz:z=n):bits BinOp.or IntKind.u8 128 (bits BinOp.and IntKind.i64 z 63 % 256)=128+z % 64:=by
 subst hz
 rw [i64_and63 n h,show ((n % 64:Nat):Int) % 256=((n % 64:Nat):Int) from by omega,or128 _ (by omega)]
 omega
set_option maxRecDepth 100000 in
set_option maxHeartbeats 1600000 in
theorem put_1 (base n:Nat) (v:Value) (xs:List Value) (r:Nat) (h1:r<128) (w:World) (hown:w.ownsRow base 5 1 v n xs) (hbase:base≤w.heap.size) (hn:n≤140737488000000) :
  Calls Tryz.prog 203 #[v,.int .i64 ((r:Int))] w (PutPost w base n v xs (encN r)):=by
 obtain ⟨i0,hi0,hz0,hz1,hz2⟩:=info_parts u8_info
 have Hown:=zh hown
 clear hown
 have hhf:halfB (r:Int)=false:=by simp only [halfB,Bool.and_eq_false_iff,decide_eq_false_iff_not]; omega
 have fin:Hid ([.int .u8 ((r:Int))]=bv (encN r)∧1=(encN r).length):=by
  show _∧_
  unfold encN
  rw [if_pos (by omega)]
  simp only [bv,List.map_cons,List.map_nil,List.length_cons,List.length_nil,and_true,Nat.zero_add,List.cons.injEq,Value.int.injEq,true_and]
  rw [B_int _ (by omega)]
 go_enter Tryz.func203,Tryz.ntmps203
 go_wp2_with (first
  | (go_at_call 202; refine (half_any _ _).mono ?_; rintro e w' ⟨rfl,rfl⟩)
  | (refine wpList_append_own (o:=⟨some 43,_,_,_,_,_⟩) _ rfl _ _ 30 rfl base 5 i0 (.int .u8 0) 1 1 Tryz.underlying30 hi0 hz0 hz1 hz2 rfl (by decide) v n xs rfl (Hown.out.alloc _) ⟨w.heap.size,0,none⟩ 1 1 [.int .u8 ((r:Int))] rfl rfl (World.news_of_block (cs:=[.int .u8 ((r:Int))].toArray) (t:=5) (fr:=(0,0)) (heap_alloc_new w _)) (by simp [Value.oneCell']) (by unfold maxLen; omega) (by omega) (by simp; omega) ?_; intro v' w3 hown3 hg3 _))
 go_ret
 exact put_end Hown.out hown3 hg3 fin.out
set_option maxRecDepth 100000 in
set_option maxHeartbeats 1600000 in
theorem put_2 (base n:Nat) (v:Value) (xs:List Value) (r:Nat) (h1 : 128≤r) (h2:r<2048) (w:World) (hown:w.ownsRow base 5 1 v n xs) (hbase:base≤w.heap.size) (hn:n≤140737488000000) :
  Calls Tryz.prog 203 #[v,.int .i64 ((r:Int))] w (PutPost w base n v xs (encN r)):=by
 obtain ⟨i0,hi0,hz0,hz1,hz2⟩:=info_parts u8_info
 have Hown:=zh hown
 clear hown
 have hhf:halfB (r:Int)=false:=by simp only [halfB,Bool.and_eq_false_iff,decide_eq_false_iff_not]; omega
 have hx1:bits BinOp.or IntKind.u8 128 (bits BinOp.and IntKind.i64 ((r:Int)) 63 % 256)=128+(r:Int) % 64:=and_or r _ (by omega) (by omega)
 have fin:Hid ([.int .u8 (192+(r:Int) / 64),.int .u8 (128+(r:Int) % 64)]=bv (encN r)∧2=(encN r).length):=by
  show _∧_
  unfold encN
  rw [if_neg (by omega),if_pos (by omega)]
  simp only [bv,List.map_cons,List.map_nil,List.length_cons,List.length_nil,and_true,Nat.zero_add,List.cons.injEq,Value.int.injEq,true_and]
  refine ⟨by rw [B_int _ (by omega)]; omega,by rw [B_int _ (by omega)]; omega⟩
 go_enter Tryz.func203,Tryz.ntmps203
 go_wp2_with (first
  | (go_at_call 202; refine (half_any _ _).mono ?_; rintro e w' ⟨rfl,rfl⟩)
  | (refine wpList_append_own (o:=⟨some 57,_,_,_,_,_⟩) _ rfl _ _ 30 rfl base 5 i0 (.int .u8 0) 1 1 Tryz.underlying30 hi0 hz0 hz1 hz2 rfl (by decide) v n xs rfl (Hown.out.alloc _) ⟨w.heap.size,0,none⟩ 2 2 [.int .u8 (192+(r:Int) / 64),.int .u8 (128+(r:Int) % 64)] rfl rfl (World.news_of_block (cs:=[.int .u8 (192+(r:Int) / 64),.int .u8 (128+(r:Int) % 64)].toArray) (t:=5) (fr:=(0,0)) (heap_alloc_new w _)) (by simp [Value.oneCell']) (by unfold maxLen; omega) (by omega) (by simp; omega) ?_; intro v' w3 hown3 hg3 _))
 go_ret
 exact put_end Hown.out hown3 hg3 fin.out
set_option maxRecDepth 100000 in
set_option maxHeartbeats 1600000 in
theorem put_bad (base n:Nat) (v:Value) (xs:List Value) (r:Int) (hbad:r<0∨1114111<r∨(55296≤r∧r≤57343)) (w:World) (hown:w.ownsRow base 5 1 v n xs) (hbase:base≤w.heap.size) (hn:n≤140737488000000) :
  Calls Tryz.prog 203 #[v,.int .i64 r] w (PutPost w base n v xs (encN 65533)):=by
 obtain ⟨i0,hi0,hz0,hz1,hz2⟩:=info_parts u8_info
 have Hown:=zh hown
 clear hown
 have hx1:bits BinOp.or IntKind.u8 128 (bits BinOp.and IntKind.i64 65533 63 % 256)=189:=by decide +kernel
 have hx2:bits BinOp.or IntKind.u8 128 (bits BinOp.and IntKind.i64 1023 63 % 256)=191:=by decide +kernel
 have hx3:bits BinOp.or IntKind.u8 224 15=239:=by decide +kernel
 have fin:Hid ([.int .u8 239,.int .u8 191,.int .u8 189]=bv (encN 65533)∧3=(encN 65533).length):=by
  show _∧_
  unfold encN
  rw [if_neg (by omega),if_neg (by omega),if_pos (by omega)]
  exact ⟨by simp only [bv,List.map_cons,List.map_nil,B_int (224+65533 / 4096) (by omega),B_int (128+65533 / 64 % 64) (by omega),B_int (128+65533 % 64) (by omega)]; rfl,rfl⟩
 rcases hbad with h | h | h
 ·go_enter Tryz.func203,Tryz.ntmps203
  go_wp2_with (first
   | (refine wpList_append_own (o:=⟨some 76,_,_,_,_,_⟩) _ rfl _ _ 30 rfl base 5 i0 (.int .u8 0) 1 1 Tryz.underlying30 hi0 hz0 hz1 hz2 rfl (by decide) v n xs rfl (Hown.out.alloc _) ⟨w.heap.size,0,none⟩ 3 3 [.int .u8 239,.int .u8 191,.int .u8 189] rfl rfl (World.news_of_block (cs:=#[.int .u8 239,.int .u8 191,.int .u8 189]) (t:=5) (fr:=(0,0)) (heap_alloc_new w _)) (by simp [Value.oneCell']) (by unfold maxLen; omega) (by omega) (by simp; omega) ?_; intro v' w3 hown3 hg3 _))
  go_ret
  exact put_end Hown.out hown3 hg3 fin.out
 ·have h':¬ r<0:=by omega
  go_enter Tryz.func203,Tryz.ntmps203
  go_wp2_with (first
   | (refine wpList_append_own (o:=⟨some 76,_,_,_,_,_⟩) _ rfl _ _ 30 rfl base 5 i0 (.int .u8 0) 1 1 Tryz.underlying30 hi0 hz0 hz1 hz2 rfl (by decide) v n xs rfl (Hown.out.alloc _) ⟨w.heap.size,0,none⟩ 3 3 [.int .u8 239,.int .u8 191,.int .u8 189] rfl rfl (World.news_of_block (cs:=#[.int .u8 239,.int .u8 191,.int .u8 189]) (t:=5) (fr:=(0,0)) (heap_alloc_new w _)) (by simp [Value.oneCell']) (by unfold maxLen; omega) (by omega) (by simp; omega) ?_; intro v' w3 hown3 hg3 _))
  go_ret
  exact put_end Hown.out hown3 hg3 fin.out
 ·have h':¬ r<0:=by omega
  have h'':¬ 1114111<r:=by omega
  have hh:halfB r=true:=by simp only [halfB,Bool.and_eq_true,decide_eq_true_eq]; exact h
  clear h
  go_enter Tryz.func203,Tryz.ntmps203
  go_wp2_with (first
   | (go_at_call 202; refine (half_any _ _).mono ?_; rintro e w' ⟨rfl,rfl⟩)
   | (refine wpList_append_own (o:=⟨some 76,_,_,_,_,_⟩) _ rfl _ _ 30 rfl base 5 i0 (.int .u8 0) 1 1 Tryz.underlying30 hi0 hz0 hz1 hz2 rfl (by decide) v n xs rfl (Hown.out.alloc _) ⟨w.heap.size,0,none⟩ 3 3 [.int .u8 239,.int .u8 191,.int .u8 189] rfl rfl (World.news_of_block (cs:=#[.int .u8 239,.int .u8 191,.int .u8 189]) (t:=5) (fr:=(0,0)) (heap_alloc_new w _)) (by simp [Value.oneCell']) (by unfold maxLen; omega) (by omega) (by simp; omega) ?_; intro v' w3 hown3 hg3 _))
  go_ret
  exact put_end Hown.out hown3 hg3 fin.out
end Go.Proofs.YtmomjpolkkbhnaaGreat.Ut
end
