/- The reference's put. -/
import Derived.Test.YtlfpfkallgkjdaaGreatQAlertBatchesRow13
import Derived.Test.YtlfpfkallgkjdaaGreatQAlertBatchesRow0
set_option maxRecDepth 20000
namespace Go.Proofs.YtlfpfkallgkjdaaGreat.Ut
open Go.RowKit
set_option maxRecDepth 100000 in
set_option maxHeartbeats 1600000 in
theorem rput_1 (base n:Nat) (v:Value) (xs:List Value) (z:Int) (h0 : 0≤z) (h1:z<128) (w:World) (hown:w.ownsRow base 5 1 v n xs) (hbase:base≤w.heap.size) (hn:n≤140737488000000) :
  Calls Tryz.prog 185 #[v,.int .i64 z] w (PutPost w base n v xs (encN z.toNat)):=by
 obtain ⟨i0,hi0,hz0,hz1,hz2⟩:=info_parts u8_info
 have Hown:=zh hown
 clear hown
 have fin:Hid ([.int .u8 z]=bv (encN z.toNat)∧1=(encN z.toNat).length):=by
  show _∧_
  obtain ⟨r,rfl⟩:=Int.eq_ofNat_of_zero_le (show 0≤z by omega)
  rw [Int.toNat_natCast]
  unfold encN
  rw [if_pos (by omega)]
  simp only [bv,List.map_cons,List.map_nil,List.length_cons,List.length_nil,and_true,Nat.zero_add,List.cons.injEq,Value.int.injEq,true_and]
  rw [B_int _ (by omega)]
 go_enter Tryz.func185,Tryz.ntmps185
 go_wp2_with (refine wpList_append_own (o:=⟨some 29,_,_,_,_,_⟩) _ rfl _ _ 205 rfl base 5 i0 (.int .u8 0) 1 1 Tryz.underlying205 hi0 hz0 hz1 hz2 rfl (by decide) v n xs rfl (Hown.out.alloc _) ⟨w.heap.size,0,none⟩ 1 1 [.int .u8 z] rfl rfl (World.news_of_block (cs:=[.int .u8 z].toArray) (t:=5) (fr:=(0,0)) (heap_alloc_new w _)) (by simp [Value.oneCell']) (by unfold maxLen; omega) (by omega) (by simp; omega) ?_; intro v' w3 hown3 hg3 _)
 go_ret
 exact put_end Hown.out hown3 hg3 fin.out
set_option maxRecDepth 100000 in
set_option maxHeartbeats 1600000 in
theorem rput_2 (base n:Nat) (v:Value) (xs:List Value) (z:Int) (h0 : 128≤z) (h1:z<2048) (w:World) (hown:w.ownsRow base 5 1 v n xs) (hbase:base≤w.heap.size) (hn:n≤140737488000000) :
  Calls Tryz.prog 185 #[v,.int .i64 z] w (PutPost w base n v xs (encN z.toNat)):=by
 obtain ⟨i0,hi0,hz0,hz1,hz2⟩:=info_parts u8_info
 have Hown:=zh hown
 clear hown
 have fin:Hid ([.int .u8 (192+z / 64),.int .u8 (128+z % 64)]=bv (encN z.toNat)∧2=(encN z.toNat).length):=by
  show _∧_
  obtain ⟨r,rfl⟩:=Int.eq_ofNat_of_zero_le (show 0≤z by omega)
  rw [Int.toNat_natCast]
  unfold encN
  rw [if_neg (by omega),if_pos (by omega)]
  simp only [bv,List.map_cons,List.map_nil,List.length_cons,List.length_nil,and_true,Nat.zero_add,List.cons.injEq,Value.int.injEq,true_and]
  refine ⟨by rw [B_int _ (by omega)]; omega,by rw [B_int _ (by omega)]; omega⟩
 go_enter Tryz.func185,Tryz.ntmps185
 go_wp2_with (refine wpList_append_own (o:=⟨some 43,_,_,_,_,_⟩) _ rfl _ _ 205 rfl base 5 i0 (.int .u8 0) 1 1 Tryz.underlying205 hi0 hz0 hz1 hz2 rfl (by decide) v n xs rfl (Hown.out.alloc _) ⟨w.heap.size,0,none⟩ 2 2 [.int .u8 (192+z / 64),.int .u8 (128+z % 64)] rfl rfl (World.news_of_block (cs:=[.int .u8 (192+z / 64),.int .u8 (128+z % 64)].toArray) (t:=5) (fr:=(0,0)) (heap_alloc_new w _)) (by simp [Value.oneCell']) (by unfold maxLen; omega) (by omega) (by simp; omega) ?_; intro v' w3 hown3 hg3 _)
 go_ret
 exact put_end Hown.out hown3 hg3 fin.out
set_option maxRecDepth 100000 in
set_option maxHeartbeats 1600000 in
theorem rput_3 (base n:Nat) (v:Value) (xs:List Value) (z:Int) (h0 : 2048≤z) (h1:z≤65535) (h2:z<55296∨57343<z) (w:World) (hown:w.ownsRow base 5 1 v n xs) (hbase:base≤w.heap.size) (hn:n≤140737488000000) :
  Calls Tryz.prog 185 #[v,.int .i64 z] w (PutPost w base n v xs (encN z.toNat)):=by
 obtain ⟨i0,hi0,hz0,hz1,hz2⟩:=info_parts u8_info
 have Hown:=zh hown
 clear hown
 have fin:Hid ([.int .u8 (224+z / 4096),.int .u8 (128+z / 64 % 64),.int .u8 (128+z % 64)]=bv (encN z.toNat)∧3=(encN z.toNat).length):=by
  show _∧_
  obtain ⟨r,rfl⟩:=Int.eq_ofNat_of_zero_le (show 0≤z by omega)
  rw [Int.toNat_natCast]
  unfold encN
  rw [if_neg (by omega),if_neg (by omega),if_pos (by omega)]
  simp only [bv,List.map_cons,List.map_nil,List.length_cons,List.length_nil,and_true,Nat.zero_add,List.cons.injEq,Value.int.injEq,true_and]
  refine ⟨by rw [B_int _ (by omega)]; omega,by rw [B_int _ (by omega)]; omega,by rw [B_int _ (by omega)]; omega⟩
 rcases h2 with h2 | h2
 ·go_enter Tryz.func185,Tryz.ntmps185
  go_wp2_with (refine wpList_append_own (o:=⟨some 62,_,_,_,_,_⟩) _ rfl _ _ 205 rfl base 5 i0 (.int .u8 0) 1 1 Tryz.underlying205 hi0 hz0 hz1 hz2 rfl (by decide) v n xs rfl (Hown.out.alloc _) ⟨w.heap.size,0,none⟩ 3 3 [.int .u8 (224+z / 4096),.int .u8 (128+z / 64 % 64),.int .u8 (128+z % 64)] rfl rfl (World.news_of_block (cs:=[.int .u8 (224+z / 4096),.int .u8 (128+z / 64 % 64),.int .u8 (128+z % 64)].toArray) (t:=5) (fr:=(0,0)) (heap_alloc_new w _)) (by simp [Value.oneCell']) (by unfold maxLen; omega) (by omega) (by simp; omega) ?_; intro v' w3 hown3 hg3 _)
  go_ret
  exact put_end Hown.out hown3 hg3 fin.out
 ·go_enter Tryz.func185,Tryz.ntmps185
  go_wp2_with (refine wpList_append_own (o:=⟨some 62,_,_,_,_,_⟩) _ rfl _ _ 205 rfl base 5 i0 (.int .u8 0) 1 1 Tryz.underlying205 hi0 hz0 hz1 hz2 rfl (by decide) v n xs rfl (Hown.out.alloc _) ⟨w.heap.size,0,none⟩ 3 3 [.int .u8 (224+z / 4096),.int .u8 (128+z / 64 % 64),.int .u8 (128+z % 64)] rfl rfl (World.news_of_block (cs:=[.int .u8 (224+z / 4096),.int .u8 (128+z / 64 % 64),.int .u8 (128+z % 64)].toArray) (t:=5) (fr:=(0,0)) (heap_alloc_new w _)) (by simp [Value.oneCell']) (by unfold maxLen; omega) (by omega) (by simp; omega) ?_; intro v' w3 hown3 hg3 _)
  go_ret
  exact put_end Hown.out hown3 hg3 fin.out
set_option maxRecDepth 100000 in
set_option maxHeartbeats 1600000 in
theorem rput_4 (base n:Nat) (v:Value) (xs:List Value) (z:Int) (h0 : 65535<z) (h1:z≤1114111) (w:World) (hown:w.ownsRow base 5 1 v n xs) (hbase:base≤w.heap.size) (hn:n≤140737488000000) :
  Calls Tryz.prog 185 #[v,.int .i64 z] w (PutPost w base n v xs (encN z.toNat)):=by
 obtain ⟨i0,hi0,hz0,hz1,hz2⟩:=info_parts u8_info
 have Hown:=zh hown
 clear hown
 have fin:Hid ([.int .u8 (240+z / 262144),.int .u8 (128+z / 4096 % 64),.int .u8 (128+z / 64 % 64),.int .u8 (128+z % 64)]=bv (encN z.toNat)∧4=(encN z.toNat).length):=by
  show _∧_
  obtain ⟨r,rfl⟩:=Int.eq_ofNat_of_zero_le (show 0≤z by omega)
  rw [Int.toNat_natCast]
  unfold encN
  rw [if_neg (by omega),if_neg (by omega),if_neg (by omega)]
  simp only [bv,List.map_cons,List.map_nil,List.length_cons,List.length_nil,and_true,Nat.zero_add,List.cons.injEq,Value.int.injEq,true_and]
  refine ⟨by rw [B_int _ (by omega)]; omega,by rw [B_int _ (by omega)]; omega,by rw [B_int _ (by omega)]; omega,by rw [B_int _ (by omega)]; omega⟩
 go_enter Tryz.func185,Tryz.ntmps185
 go_wp2_with (refine wpList_append_own (o:=⟨some 83,_,_,_,_,_⟩) _ rfl _ _ 205 rfl base 5 i0 (.int .u8 0) 1 1 Tryz.underlying205 hi0 hz0 hz1 hz2 rfl (by decide) v n xs rfl (Hown.out.alloc _) ⟨w.heap.size,0,none⟩ 4 4 [.int .u8 (240+z / 262144),.int .u8 (128+z / 4096 % 64),.int .u8 (128+z / 64 % 64),.int .u8 (128+z % 64)] rfl rfl (World.news_of_block (cs:=[.int .u8 (240+z / 262144),.int .u8 (128+z / 4096 % 64),.int .u8 (128+z / 64 % 64),.int .u8 (128+z % 64)].toArray) (t:=5) (fr:=(0,0)) (heap_alloc_new w _)) (by simp [Value.oneCell']) (by unfold maxLen; omega) (by omega) (by simp; omega) ?_; intro v' w3 hown3 hg3 _)
 go_ret
 exact put_end Hown.out hown3 hg3 fin.out
set_option maxRecDepth 100000 in
set_option maxHeartbeats 1600000 in
theorem rput_bad (base n:Nat) (v:Value) (xs:List Value) (z:Int) (hbad:z<0∨1114111<z∨(55296≤z∧z≤57343)) (w:World) (hown:w.ownsRow base 5 1 v n xs) (hbase:base≤w.heap.size) (hn:n≤140737488000000) :
  Calls Tryz.prog 185 #[v,.int .i64 z] w (PutPost w base n v xs (encN 65533)):=by
 have c:=rput_3 base n v xs 65533 (by omega) (by omega) (by omega) w hown hbase hn
 rw [show (65533:Int).toNat=65533 from rfl] at c
 clear hown
 rcases hbad with h | h | ⟨h,h'⟩
 ·go_enter Tryz.func185,Tryz.ntmps185
  go_wp2_with fail
  refine c.mono ?_
  rintro e w3 ⟨v',rfl,ho,hg⟩
  go_wp2
  go_ret
  exact ⟨v',rfl,ho,hg⟩
 ·go_enter Tryz.func185,Tryz.ntmps185
  go_wp2_with fail
  refine c.mono ?_
  rintro e w3 ⟨v',rfl,ho,hg⟩
  go_wp2
  go_ret
  exact ⟨v',rfl,ho,hg⟩
 ·go_enter Tryz.func185,Tryz.ntmps185
  go_wp2_with fail
  refine c.mono ?_
  rintro e w3 ⟨v',rfl,ho,hg⟩
  go_wp2
  go_ret
  exact ⟨v',rfl,ho,hg⟩
theorem rput_any (base n:Nat) (v:Value) (xs:List Value) (z:Int) (w:World) (hown:w.ownsRow base 5 1 v n xs) (hbase:base≤w.heap.size) (hn:n≤140737488000000) :
  Calls Tryz.prog 185 #[v,.int .i64 z] w (PutPost w base n v xs (enc z)):=by
 unfold enc fix
 by_cases hb:z<0∨1114111<z∨(55296≤z∧z≤57343)
 ·rw [if_pos hb]; exact rput_bad base n v xs z hb w hown hbase hn
 ·rw [if_neg hb]
  by_cases h1:z<128
  ·exact rput_1 base n v xs z (by omega) h1 w hown hbase hn
  ·by_cases h2:z<2048
   ·exact rput_2 base n v xs z (by omega) h2 w hown hbase hn
   ·by_cases h3:z≤65535
    ·exact rput_3 base n v xs z (by omega) h3 (by omega) w hown hbase hn
    ·exact rput_4 base n v xs z (by omega) (by omega) w hown hbase hn
end Go.Proofs.YtlfpfkallgkjdaaGreat.Ut


