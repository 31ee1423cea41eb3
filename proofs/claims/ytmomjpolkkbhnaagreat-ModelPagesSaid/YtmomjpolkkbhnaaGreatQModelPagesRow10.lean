/- The reference's put. -/
import Derived.Test.YtmomjpolkkbhnaaGreatQModelPagesRow9
import Derived.Test.YtmomjpolkkbhnaaGreatQModelPagesRow2
import Derived.Test.YtmomjpolkkbhnaaGreatQModelPagesRow0
set_option maxRecDepth 20000
section
namespace Go.Proofs.YtmomjpolkkbhnaaGreat.Ut
open Go.RowKit
set_option maxRecDepth 100000 in
set_option maxHeartbeats 1600000 in
theorem rput_1 (base n:Nat) (v:Value) (xs:List Value) (z:Int) (h0 : 0≤z) (h1:z<128) (w:World) (hown:w.ownsRow base 5 1 v n xs) (hbase:base≤w.heap.size) (hn:n≤140737488000000) :
  Calls Tryz.prog 214 #[v,.int .i64 z] w (PutPost w base n v xs (encN z.toNat)):=by
 obtain ⟨i0,hi0,hz0,hz1,hz2⟩:=info_parts u8_info
 have Hown:=zh hown
 clear hown
 have fin:Hid ([.int .u8 z]=bv (encN z.toNat)∧1=(encN z.toNat).length):=by
  show _∧_
  obtain ⟨r,rfl⟩:=Int.eq_ofNat_of_zero_le (show 0≤z by omega)
  rw [Int.toNat_natCast]
  unfold encN
  rw [if_pos (by omega)]
  simp only [bv,List.map_cons,List.map_nil,List.length_cons,List.length_nil,and_true,Nat.zero_add,List.cons.injEq,Value.int.injEq,true_and]
  rw [B_int _ (by omega)]
 go_enter Tryz.func214,Tryz.ntmps214
 go_wp2_with (refine wpList_append_own (o:=⟨some 29,_,_,_,_,_⟩) _ rfl _ _ 30 rfl base 5 i0 (.int .u8 0) 1 1 Tryz.underlying30 hi0 hz0 hz1 hz2 rfl (by decide) v n xs rfl (Hown.out.alloc _) ⟨w.heap.size,0,none⟩ 1 1 [.int .u8 z] rfl rfl (World.news_of_block (cs:=[.int .u8 z].toArray) (t:=5) (fr:=(0,0)) (heap_alloc_new w _)) (by simp [Value.oneCell']) (by unfold maxLen; omega) (by omega) (by simp; omega) ?_; intro v' w3 hown3 hg3 _)
 go_ret
 exact put_end Hown.out hown3 hg3 fin.out
set_option maxRecDepth 100000 in
set_option maxHeartbeats 1600000 in
theorem rput_2 (base n:Nat) (v:Value) (xs:List Value) (z:Int) (h0 : 128≤z) (h1:z<2048) (w:World) (hown:w.ownsRow base 5 1 v n xs) (hbase:base≤w.heap.size) (hn:n≤140737488000000) :
  Calls Tryz.prog 214 #[v,.int .i64 z] w (PutPost w base n v xs (encN z.toNat)):=by
 obtain ⟨i0,hi0,hz0,hz1,hz2⟩:=info_parts u8_info
 have Hown:=zh hown
 clear hown
 have fin:Hid ([.int .u8 (192+z / 64),.int .u8 (128+z % 64)]=bv (encN z.toNat)∧2=(encN z.toNat).length):=by
  show _∧_
  obtain ⟨r,rfl⟩:=Int.eq_ofNat_of_zero_le (show 0≤z by omega)
  rw [Int.toNat_natCast]
  unfold encN
  rw [if_neg (by omega),if_pos (by omega)]
  simp only [bv,List.map_cons,List.map_nil,List.length_cons,List.length_nil,and_true,Nat.zero_add,List.cons.injEq,Value.int.injEq,true_and]
  refine ⟨by rw [B_int _ (by omega)]; omega,by rw [B_int _ (by omega)]; omega⟩
 go_enter Tryz.func214,Tryz.ntmps214
 go_wp2_with (refine wpList_append_own (o:=⟨some 43,_,_,_,_,_⟩) _ rfl _ _ 30 rfl base 5 i0 (.int .u8 0) 1 1 Tryz.underlying30 hi0 hz0 hz1 hz2 rfl (by decide) v n xs rfl (Hown.out.alloc _) ⟨w.heap.size,0,none⟩ 2 2 [.int .u8 (192+z / 64),.int .u8 (128+z % 64)] rfl rfl (World.news_of_block (cs:=[.int .u8 (192+z / 64),.int .u8 (128+z % 64)].toArray) (t:=5) (fr:=(0,0)) (heap_alloc_new w _)) (by simp [Value.oneCell']) (by unfold maxLen; omega) (by omega) (by simp; omega) ?_; intro v' w3 hown3 hg3 _)
 go_ret
 exact put_end Hown.out hown3 hg3 fin.out
set_option maxRecDepth 100000 in
set_option maxHeartbeats 1600000 in
theorem rput_3 (base n:Nat) (v:Value) (xs:List Value) (z:Int) (h0 : 2048≤z) (h1:z≤65535) (h2:z<55296∨57343<z) (w:World) (hown:w.ownsRow base 5 1 v n xs) (hbase:base≤w.heap.size) (hn:n≤140737488000000) :
  Calls Tryz.prog 214 #[v,.int .i64 z] w (PutPost w base n v xs (encN z.toNat)):=by
 obtain ⟨i0,hi0,hz0,hz1,hz2⟩:=info_parts u8_info
 have Hown:=zh hown
 clear hown
 have fin:Hid ([.int .u8 (224+z / 4096),.int .u8 (128+z / 64 % 64),.int .u8 (128+z % 64)]=bv (encN z.toNat)∧3=(encN z.toNat).length):=by
  show _∧_
  obtain ⟨r,rfl⟩:=Int.eq_ofNat_of_zero_le (show 0≤z by omega)
  rw [Int.toNat_natCast]
  unfold encN
  rw [if_neg (by omega),if_neg (by omega),if_pos (by omega)]
  simp only [bv,List.map_cons,List.map_nil,List.length_cons,List.length_nil,and_true,Nat.zero_add,List.cons.injEq,Value.int.injEq,true_and]
  refine ⟨by rw [B_int _ (by omega)]; omega,by rw [B_int _ (by omega)]; omega,by rw [B_int _ (by omega)]; omega⟩
 rcases h2 with h2 | h2
 ·go_enter Tryz.func214,Tryz.ntmps214
  go_wp2_with (refine wpList_append_own (o:=⟨some 62,_,_,_,_,_⟩) _ rfl _ _ 30 rfl base 5 i0 (.int .u8 0) 1 1 Tryz.underlying30 hi0 hz0 hz1 hz2 rfl (by decide) v n xs rfl (Hown.out.alloc _) ⟨w.heap.size,0,none⟩ 3 3 [.int .u8 (224+z / 4096),.int .u8 (128+z / 64 % 64),.int .u8 (128+z % 64)] rfl rfl (World.news_of_block (cs:=[.int .u8 (224+z / 4096),.int .u8 (128+z / 64 % 64),.int .u8 (128+z % 64)].toArray) (t:=5) (fr:=(0,0)) (heap_alloc_new w _)) (by simp [Value.oneCell']) (by unfold maxLen; omega) (by omega) (by simp; omega) ?_; intro v' w3 hown3 hg3 _)
  go_ret
  exact put_end Hown.out hown3 hg3 fin.out
 ·go_enter Tryz.func214,Tryz.ntmps214
  go_wp2_with (refine wpList_append_own (o:=⟨some 62,_,_,_,_,_⟩) _ rfl _ _ 30 rfl base 5 i0 (.int .u8 0) 1 1 Tryz.underlying30 hi0 hz0 hz1 hz2 rfl (by decide) v n xs rfl (Hown.out.alloc _) ⟨w.heap.size,0,none⟩ 3 3 [.int .u8 (224+z / 4096),.int .u8 (128+z / 64 % 64),.int .u8 (128+z % 64)] rfl rfl (World.news_of_block (cs:=[.int .u8 (224+z / 4096),.int .u8 (128+z / 64 % 64),.int .u8 (128+z % 64)].toArray) (t:=5) (fr:=(0,0)) (heap_alloc_new w _)) (by simp [Value.oneCell']) (by unfold maxLen; omega) (by omega) (by simp; omega) ?_; intro v' w3 hown3 hg3 _)
  go_ret
  exact put_end Hown.out hown3 hg3 fin.out
set_option maxRecDepth 100000 in
set_option maxHeartbeats 1600000 in
theorem rput_4 (base n:Nat) (v:Value) (xs:List Value) (z:Int) (h0 : 65535<z) (h1:z≤1114111) (w:World) (hown:w.ownsRow base 5 1 v n xs) (hbase:base≤w.heap.size) (hn:n≤140737488000000) :
  Calls Tryz.prog 214 #[v,.int .i64 z] w (PutPost w base n v xs (encN z.toNat)):=by
 obtain ⟨i0,hi0,hz0,hz1,hz2⟩:=info_parts u8_info
 have Hown:=zh hown
 clear hown
 have fin:Hid ([.int .u8 (240+z / 262144),.int .u8 (128+z / 4096 % 64),.int .u8 (128+z / 64 % 64),.int .u8 (128+z % 64)]=bv (encN z.toNat)∧4=(encN z.toNat).length):=by
  show _∧_
  obtain ⟨r,rfl⟩:=Int.eq_ofNat_of_zero_le (show 0≤z by omega)
  rw [Int.toNat_natCast]
  unfold encN
  rw [if_neg (by omega),if_neg (by omega),if_neg (by omega)]
  simp only [bv,List.map_cons,List.map_nil,List.length_cons,List.length_nil,and_true,Nat.zero_add,List.cons.injEq,Value.int.injEq,true_and]
  refine ⟨by rw [B_int _ (by omega)]; omega,by rw [B_int _ (by omega)]; omega,by rw [B_int _ (by omega)]; omega,by rw [B_int _ (by omega)]; omega⟩
 go_enter Tryz.func214,Tryz.ntmps214
 go_wp2_with (refine wpList_append_own (o:=⟨some 83,_,_,_,_,_⟩) _ rfl _ _ 30 rfl base 5 i0 (.int .u8 0) 1 1 Tryz.underlying30 hi0 hz0 hz1 hz2 rfl (by decide) v n xs rfl (Hown.out.alloc _) ⟨w.heap.size,0,none⟩ 4 4 [.int .u8 (240+z / 262144),.int .u8 (128+z / 4096 % 64),.int .u8 (128+z / 64 % 64),.int .u8 (128+z % 64)] rfl rfl (World.news_of_block (cs:=[.int .u8 (240+z / 262144),.int .u8 (128+z / 4096 % 64),.int .u8 (128+z / 64 % 64),.int .u8 (128+z % 64)].toArray) (t:=5) (fr:=(0,0)) (heap_alloc_new w _)) (by simp [Value.oneCell']) (by unfold maxLen; omega) (by omega) (by simp; omega) ?_; intro v' w3 hown3 hg3 _)
 go_ret
 exact put_end Hown.out hown3 hg3 fin.out
set_option maxRecDepth 100000 in
set_option maxHeartbeats 1600000 in
theorem rput_bad (base n:Nat) (v:Value) (xs:List Value) (z:Int) (hbad:z<0∨1114111<z∨(55296≤z∧z≤57343)) (w:World) (hown:w.ownsRow base 5 1 v n xs) (hbase:base≤w.heap.size) (hn:n≤140737488000000) :
  Calls Tryz.prog 214 #[v,.int .i64 z] w (PutPost w base n v xs (encN 65533)):=by
 have c:=rput_3 base n v xs 65533 (by omega) (by omega) (by omega) w hown hbase hn
 rw [show (65533:Int).toNat=65533 from rfl] at c
 clear hown
 rcases hbad with h | h | ⟨h,h'⟩
 ·go_enter Tryz.func214,Tryz.ntmps214
  go_wp2_with fail
  refine c.mono ?_
  rintro e w3 ⟨v',rfl,ho,hg⟩
  go_wp2
  go_ret
  exact ⟨v',rfl,ho,hg⟩
 ·go_enter Tryz.func214,Tryz.ntmps214
  go_wp2_with fail
  refine c.mono ?_
  rintro e w3 ⟨v',rfl,ho,hg⟩
  go_wp2
  go_ret
  exact ⟨v',rfl,ho,hg⟩
 ·go_enter Tryz.func214,Tryz.ntmps214
  go_wp2_with fail
  refine c.mono ?_
  rintro e w3 ⟨v',rfl,ho,hg⟩
  go_wp2
  go_ret
  exact ⟨v',rfl,ho,hg⟩
theorem rput_any (base n:Nat) (v:Value) (xs:List Value) (z:Int) (w:World) (hown:w.ownsRow base 5 1 v n xs) (hbase:base≤w.heap.size) (hn:n≤140737488000000) :
  Calls Tryz.prog 214 #[v,.int .i64 z] w (PutPost w base n v xs (enc z)):=by
 unfold enc fix
 by_cases hb:z<0∨1114111<z∨(55296≤z∧z≤57343)
 ·rw [if_pos hb]; exact rput_bad base n v xs z hb w hown hbase hn
 ·rw [if_neg hb]
  by_cases h1:z<128
  ·exact rput_1 base n v xs z (by omega) h1 w hown hbase hn
  ·by_cases h2:z<2048
   ·exact rput_2 base n v xs z (by omega) h2 w hown hbase hn
   ·by_cases h3:z≤65535
    ·exact rput_3 base n v xs z (by omega) h3 (by omega) w hown hbase hn
    ·exact rput_4 base n v xs z (by omega) (by omega) w hown hbase hn
end Go.Proofs.YtmomjpolkkbhnaaGreat.Ut
end

section
namespace Go.Proofs.YtmomjpolkkbhnaaGreat.Ut
open Go.RowKit
set_option maxHeartbeats 800000 in
theorem encode_ref (A:Option Addr) (n c:Nat) (rs:List Int) (w:World) (hR:Reads w w.heap.size 1 A n (rs.map (Value.int .i64))) (hn:n≤35000000000000) :
  Calls Tryz.prog 206 #[.slice A n c] w fun e w'=>e=.returned (.string (str (encode rs)))∧Below w.heap.size w w':=by
 have hlen:rs.length=n:=by have:=hR.1; simpa using this
 have HR:=zh hR
 have Hl:=zh hlen
 have St:=zh (Putting.start w)
 clear hR hlen
 go_enter Tryz.func206,Tryz.ntmps206
 go_wp2
 go_loopw [3,4] (fun v i wr=>∃ k:Nat,k≤n∧i=.int .i64 k∧Putting w wr v (rs.take k)) (fun _ i _=>n - (intOf i).toNat)
 case atStart=>exact ⟨0,Nat.zero_le _,rfl,St.out⟩
 case round =>
  obtain ⟨k,hk,rfl,hp⟩:=hrel
  have hel:=encode_len (rs.take k)
  have htl:(rs.take k).length≤n:=by rw [List.length_take]; omega
  by_cases hlt:k<n
  ·obtain ⟨ab,ao,hkl,rfl,hab,hcw⟩:=HR.out.at_map hlt
   have hcx:=(hp.bel.cell (p:=⟨ab,ao+k,none⟩) hab).trans hcw
   have hts:rs.take (k+1)=rs.take k ++ [rs[k]]:=by rw [List.take_succ_eq_append_getElem hkl]
   have Hts:=zh hts
   have c1:=rput_any w.heap.size _ u3 _ rs[k] wr hp.own hp.bel.size (by omega)
   have Hp:=zh hp
   clear hts hcw hp
   generalize rs[k]=r at *
   go_wp2_with fail
   refine c1.mono ?_
   rintro e w2 ⟨v',rfl,hown2,hg2⟩
   have Hp2:=zh (Hp.out.put hown2 hg2)
   clear hown2 hg2
   go_wp2
   go_roundw
   case rel=>exact ⟨k+1,by omega,by go_num,by rw [Hts.out]; exact Hp2.out⟩
   case measure=>simp [intOf]; omega
  ·have hall:rs.take k=rs:=List.take_of_length_le (by rw [Hl.out]; omega)
   have hcv:=conv_own (P:=Tryz.prog) (tb:=30) (ts:=9) hp.own Tryz.underlying30 Tryz.underlying5 Tryz.underlying9
   have Hall:=zh hall
   have Hb:=zh hp.bel
   clear hall hp hel htl
   go_wp2
   go_ret
   exact ⟨by rw [Hall.out]; rfl,Hb.out⟩
end Go.Proofs.YtmomjpolkkbhnaaGreat.Ut
end

section
namespace Go.Proofs.YtmomjpolkkbhnaaGreat.Qy
open Go.RowKit Ut
def stands (T:List (List UInt8)) (ws:List ByteArray) (i:Nat):Bool:=((T.drop i).take ws.length) == ws.map (fun s=>s.data.toList)
def phrTo (T:List (List UInt8)) (ws:List ByteArray) (k:Nat):List Nat:=(List.range k).filter (stands T ws)
def phr (T:List (List UInt8)) (ws:List ByteArray):List Nat:=if ws=[] then [] else phrTo T ws T.length
theorem phrTo_succ (T:List (List UInt8)) (ws:List ByteArray) (k:Nat):phrTo T ws (k+1)=phrTo T ws k ++ if stands T ws k then [k] else []:=by
 unfold phrTo
 rw [List.range_succ,List.filter_append]
 by_cases h:stands T ws k <;> simp [h]
theorem phrTo_len (T:List (List UInt8)) (ws:List ByteArray) (k:Nat):(phrTo T ws k).length≤k:=by
 have:=List.length_filter_le (stands T ws) (List.range k)
 rwa [List.length_range] at this
theorem stands_short (T:List (List UInt8)) (ws:List ByteArray) (i:Nat) (h:T.length - i<ws.length):stands T ws i=false:=by
 unfold stands
 rw [beq_eq_false_iff_ne]
 intro e
 have:=congrArg List.length e
 simp at this
 omega
theorem phrTo_short (T:List (List UInt8)) (ws:List ByteArray) (k:Nat) (h:T.length - k<ws.length):∀ j,k≤j→phrTo T ws j=phrTo T ws k:=by
 intro j hj
 induction j with
 | zero =>
  obtain rfl:k=0:=by omega
  rfl
 | succ j ih =>
  by_cases e:k=j+1
  ·rw [e]
  ·rw [phrTo_succ,stands_short T ws j (by omega),if_neg (by decide),List.append_nil]
   exact ih (by omega)
def standsTo (T:List (List UInt8)) (ws:List ByteArray) (i k:Nat):Bool:=((T.drop i).take k) == (ws.take k).map (fun s=>s.data.toList)
theorem standsTo_zero (T:List (List UInt8)) (ws:List ByteArray) (i:Nat):standsTo T ws i 0=true:=by simp [standsTo]
theorem standsTo_all (T:List (List UInt8)) (ws:List ByteArray) (i:Nat):standsTo T ws i ws.length=stands T ws i:=by unfold standsTo stands; rw [List.take_length]
theorem standsTo_succ (T:List (List UInt8)) (ws:List ByteArray) (i k:Nat) (h1:i+k<T.length) (h2:k<ws.length):standsTo T ws i (k+1)=(standsTo T ws i k && (T[i+k] == ws[k].data.toList)):=by
 unfold standsTo
 have e1:(T.drop i).take (k+1)=(T.drop i).take k ++ [T[i+k]]:=by
  rw [List.take_succ_eq_append_getElem (by simp; omega)]
  simp
 have e2:(ws.take (k+1)).map (fun s=>s.data.toList)=(ws.take k).map (fun s=>s.data.toList) ++ [ws[k].data.toList]:=by
  rw [List.take_succ_eq_append_getElem h2,List.map_append]; rfl
 have hl:((T.drop i).take k).length=((ws.take k).map (fun s=>s.data.toList)).length:=by simp; omega
 rw [e1,e2,Bool.eq_iff_iff]
 simp only [beq_iff_eq,Bool.and_eq_true]
 constructor
 ·intro e
  have:=List.append_inj e hl
  exact ⟨this.1,by simpa using this.2⟩
 ·rintro ⟨a,b⟩
  rw [a,b]
theorem standsTo_no (T:List (List UInt8)) (ws:List ByteArray) (i k:Nat) (hk:k≤ws.length) (h:standsTo T ws i k=false):stands T ws i=false:=by
 unfold standsTo stands at *
 rw [beq_eq_false_iff_ne] at *
 intro e
 apply h
 have:=congrArg (List.take k) e
 rw [List.take_take,Nat.min_eq_left hk] at this
 rw [this,List.map_take]
def begins (t:List UInt8) (p:ByteArray):Bool:=p.data.toList.isPrefixOf t
def leafT (k:Int) (ws:List ByteArray) (T:List (List UInt8)):Bool :=
 if k=3 then (match ws with | [p]=>T.any (begins · p) | _=>false)
 else if k=2 then decide (ws.length=1) && decide (0<(phr T ws).length)
 else decide (0<(phr T ws).length)
def leafB (k:Int) (nm:ByteArray) (ws:List ByteArray) (fs:List (ByteArray × ByteArray)):Bool:=fs.any fun f=>f.1.data.toList == nm.data.toList && leafT k ws (Tk.words f.2.data.toList)
mutual
def matchB (fs:List (ByteArray × ByteArray)):Q→Bool
 | .mk k nm ws l=>if k=1 then true else if k=2∨k=3∨k=4 then leafB k nm ws fs else if k=5 then matchAll fs l else if k=6 then matchSome fs l else if k=7 then matchNone fs l else false
def matchAll (fs:List (ByteArray × ByteArray)):List Q→Bool
 | []=>true
 | q :: l=>matchB fs q && matchAll fs l
def matchSome (fs:List (ByteArray × ByteArray)):List Q→Bool
 | []=>false
 | q :: l=>matchB fs q || matchSome fs l
def matchNone (fs:List (ByteArray × ByteArray)):List Q→Bool
 | [q]=>!matchB fs q
 | _=>false
end
theorem matchAll_eq (fs:List (ByteArray × ByteArray)):∀ l,matchAll fs l=l.all (matchB fs)
 | []=>by simp [matchAll]
 | q :: l=>by simp [matchAll,matchAll_eq fs l]
theorem matchSome_eq (fs:List (ByteArray × ByteArray)):∀ l,matchSome fs l=l.any (matchB fs)
 | []=>by simp [matchSome]
 | q :: l=>by simp [matchSome,matchSome_eq fs l]
theorem matchB_eq (fs:List (ByteArray × ByteArray)) (k:Int) (nm:ByteArray) (ws:List ByteArray) (l:List Q) :
  matchB fs (.mk k nm ws l)=if k=1 then true else if k=2∨k=3∨k=4 then leafB k nm ws fs else if k=5 then l.all (matchB fs) else if k=6 then l.any (matchB fs) else if k=7 then matchNone fs l else false:=by
 rw [matchB,matchAll_eq,matchSome_eq]
end Go.Proofs.YtmomjpolkkbhnaaGreat.Qy
end
