/- utf.put at every rune. -/
import Derived.Test.YtmomjpolkkbhnaaGreatQModelPagesRow5
import Derived.Test.YtmomjpolkkbhnaaGreatQModelPagesRow0
set_option maxRecDepth 20000
section
namespace Go.Proofs.YtmomjpolkkbhnaaGreat.Ut
open Go.RowKit
set_option maxRecDepth 100000 in
set_option maxHeartbeats 1600000 in
theorem put_3 (base n:Nat) (v:Value) (xs:List Value) (r:Nat) (h1 : 2048≤r) (h2:r<65536) (h3:¬ (55296≤r∧r≤57343)) (w:World) (hown:w.ownsRow base 5 1 v n xs) (hbase:base≤w.heap.size) (hn:n≤140737488000000) :
  Calls Tryz.prog 203 #[v,.int .i64 ((r:Int))] w (PutPost w base n v xs (encN r)):=by
 obtain ⟨i0,hi0,hz0,hz1,hz2⟩:=info_parts u8_info
 have Hown:=zh hown
 clear hown
 have hhf:halfB (r:Int)=false:=by simp only [halfB,Bool.and_eq_false_iff,decide_eq_false_iff_not]; omega
 have hx1:bits BinOp.or IntKind.u8 128 (bits BinOp.and IntKind.i64 ((r:Int)) 63 % 256)=128+(r:Int) % 64:=and_or r _ (by omega) (by omega)
 have hx2:bits BinOp.or IntKind.u8 128 (bits BinOp.and IntKind.i64 ((r:Int) / 64) 63 % 256)=128+(r:Int) / 64 % 64:=and_or (r / 64) _ (by omega) (by omega)
 have fin:Hid ([.int .u8 (224+(r:Int) / 4096),.int .u8 (128+(r:Int) / 64 % 64),.int .u8 (128+(r:Int) % 64)]=bv (encN r)∧3=(encN r).length):=by
  show _∧_
  unfold encN
  rw [if_neg (by omega),if_neg (by omega),if_pos (by omega)]
  simp only [bv,List.map_cons,List.map_nil,List.length_cons,List.length_nil,and_true,Nat.zero_add,List.cons.injEq,Value.int.injEq,true_and]
  refine ⟨by rw [B_int _ (by omega)]; omega,by rw [B_int _ (by omega)]; omega,by rw [B_int _ (by omega)]; omega⟩
 have g1:(2048:Int)≤(r:Int):=by omega
 have g2:(r:Int)≤65535:=by omega
 clear h1 h2 h3
 go_enter Tryz.func203,Tryz.ntmps203
 go_wp2_with (first
  | (go_at_call 202; refine (half_any _ _).mono ?_; rintro e w' ⟨rfl,rfl⟩)
  | (refine wpList_lss (o:=⟨some 60,_,_,_,_,_⟩) rfl _ _ _ _ rfl .i64 _ 65536 rfl rfl true (by rw [decide_eq_true_eq]; omega) ?_)
  | (refine wpList_append_own (o:=⟨some 76,_,_,_,_,_⟩) _ rfl _ _ 30 rfl base 5 i0 (.int .u8 0) 1 1 Tryz.underlying30 hi0 hz0 hz1 hz2 rfl (by decide) v n xs rfl (Hown.out.alloc _) ⟨w.heap.size,0,none⟩ 3 3 [.int .u8 (224+(r:Int) / 4096),.int .u8 (128+(r:Int) / 64 % 64),.int .u8 (128+(r:Int) % 64)] rfl rfl (World.news_of_block (cs:=[.int .u8 (224+(r:Int) / 4096),.int .u8 (128+(r:Int) / 64 % 64),.int .u8 (128+(r:Int) % 64)].toArray) (t:=5) (fr:=(0,0)) (heap_alloc_new w _)) (by simp [Value.oneCell']) (by unfold maxLen; omega) (by omega) (by simp; omega) ?_; intro v' w3 hown3 hg3 _))
 go_ret
 exact put_end Hown.out hown3 hg3 fin.out
set_option maxRecDepth 100000 in
set_option maxHeartbeats 1600000 in
theorem put_4 (base n:Nat) (v:Value) (xs:List Value) (r:Nat) (h1 : 65536≤r) (h2:r≤1114111) (w:World) (hown:w.ownsRow base 5 1 v n xs) (hbase:base≤w.heap.size) (hn:n≤140737488000000) :
  Calls Tryz.prog 203 #[v,.int .i64 ((r:Int))] w (PutPost w base n v xs (encN r)):=by
 obtain ⟨i0,hi0,hz0,hz1,hz2⟩:=info_parts u8_info
 have Hown:=zh hown
 clear hown
 have hhf:halfB (r:Int)=false:=by simp only [halfB,Bool.and_eq_false_iff,decide_eq_false_iff_not]; omega
 have hx1:bits BinOp.or IntKind.u8 128 (bits BinOp.and IntKind.i64 ((r:Int)) 63 % 256)=128+(r:Int) % 64:=and_or r _ (by omega) (by omega)
 have hx2:bits BinOp.or IntKind.u8 128 (bits BinOp.and IntKind.i64 ((r:Int) / 64) 63 % 256)=128+(r:Int) / 64 % 64:=and_or (r / 64) _ (by omega) (by omega)
 have hx3:bits BinOp.or IntKind.u8 128 (bits BinOp.and IntKind.i64 ((r:Int) / 4096) 63 % 256)=128+(r:Int) / 4096 % 64:=and_or (r / 4096) _ (by omega) (by omega)
 have fin:Hid ([.int .u8 (240+(r:Int) / 262144),.int .u8 (128+(r:Int) / 4096 % 64),.int .u8 (128+(r:Int) / 64 % 64),.int .u8 (128+(r:Int) % 64)]=bv (encN r)∧4=(encN r).length):=by
  show _∧_
  unfold encN
  rw [if_neg (by omega),if_neg (by omega),if_neg (by omega)]
  simp only [bv,List.map_cons,List.map_nil,List.length_cons,List.length_nil,and_true,Nat.zero_add,List.cons.injEq,Value.int.injEq,true_and]
  refine ⟨by rw [B_int _ (by omega)]; omega,by rw [B_int _ (by omega)]; omega,by rw [B_int _ (by omega)]; omega,by rw [B_int _ (by omega)]; omega⟩
 have g1:(65535:Int)<(r:Int):=by omega
 have g2:(r:Int)≤1114111:=by omega
 clear h1 h2
 go_enter Tryz.func203,Tryz.ntmps203
 go_wp2_with (first
  | (go_at_call 202; refine (half_any _ _).mono ?_; rintro e w' ⟨rfl,rfl⟩)
  | (refine wpList_lss (o:=⟨some 60,_,_,_,_,_⟩) rfl _ _ _ _ rfl .i64 _ 65536 rfl rfl false (by rw [decide_eq_false_iff_not]; omega) ?_)
  | (refine wpList_append_own (o:=⟨some 35,_,_,_,_,_⟩) _ rfl _ _ 30 rfl base 5 i0 (.int .u8 0) 1 1 Tryz.underlying30 hi0 hz0 hz1 hz2 rfl (by decide) v n xs rfl (Hown.out.alloc _) ⟨w.heap.size,0,none⟩ 4 4 [.int .u8 (240+(r:Int) / 262144),.int .u8 (128+(r:Int) / 4096 % 64),.int .u8 (128+(r:Int) / 64 % 64),.int .u8 (128+(r:Int) % 64)] rfl rfl (World.news_of_block (cs:=[.int .u8 (240+(r:Int) / 262144),.int .u8 (128+(r:Int) / 4096 % 64),.int .u8 (128+(r:Int) / 64 % 64),.int .u8 (128+(r:Int) % 64)].toArray) (t:=5) (fr:=(0,0)) (heap_alloc_new w _)) (by simp [Value.oneCell']) (by unfold maxLen; omega) (by omega) (by simp; omega) ?_; intro v' w3 hown3 hg3 _))
 go_ret
 exact put_end Hown.out hown3 hg3 fin.out
theorem put_any (base n:Nat) (v:Value) (xs:List Value) (r:Int) (w:World) (hown:w.ownsRow base 5 1 v n xs) (hbase:base≤w.heap.size) (hn:n≤140737488000000) :
  Calls Tryz.prog 203 #[v,.int .i64 r] w (PutPost w base n v xs (enc r)):=by
 unfold enc fix
 by_cases h:r<0∨1114111<r∨(55296≤r∧r≤57343)
 ·rw [if_pos h]; exact put_bad base n v xs r h w hown hbase hn
 ·rw [if_neg h]
  obtain ⟨k,rfl⟩:=Int.eq_ofNat_of_zero_le (show 0≤r by omega)
  rw [Int.toNat_natCast]
  by_cases h1:k<128
  ·exact put_1 base n v xs k h1 w hown hbase hn
  ·by_cases h2:k<2048
   ·exact put_2 base n v xs k (by omega) h2 w hown hbase hn
   ·by_cases h3:k<65536
    ·exact put_3 base n v xs k (by omega) h3 (by omega) w hown hbase hn
    ·exact put_4 base n v xs k (by omega) (by omega) w hown hbase hn
end Go.Proofs.YtmomjpolkkbhnaaGreat.Ut
end

section
namespace Go.Proofs.YtmomjpolkkbhnaaGreat.Ut
open Go.RowKit
def str (l:List UInt8):ByteArray:=⟨l.toArray⟩
theorem str_data (l:List UInt8):(str l).data.toList=l:=by simp [str]
theorem str_size (l:List UInt8):(str l).size=l.length:=by rw [← bsize,str_data]
theorem of_str (s:ByteArray):str s.data.toList=s:=by
 obtain ⟨d⟩:=s; simp [str]
theorem conv_own {P:Program} {w:World} {base:Nat} {tb ts tu:TypeId} {v:Value} {n:Nat} {l:List UInt8} (h:w.ownsRow base tu 1 v n (bv l)) (hs:P.underlying tb=some (.slice tu)) (he:P.underlying tu=some (.int .u8)) (hd:P.underlying ts=some .string) :
  (convert tb ts v).run P w=.ok (.string (str l)) w:=by
 have hl:l.length=n:=by have:=h.1; simpa [bv] using this
 rcases h.2 with ⟨rfl,rfl⟩ | ⟨g,cap,cur,rfl,hb,hg,hnc,hcm,hcs,htake⟩
 ·have:l=[]:=List.eq_nil_of_length_eq_zero hl
  subst this
  rw [run_convert_bytes_nil w tb tu hs he 0 0 ts hd]
  rfl
 ·subst hl
  exact run_convert_bytes_back w tb ts tu ⟨g,0,none⟩ cap l hs he hd fun j hj=>by
   have:=h.cells (g:=g) rfl j (.int .u8 ((l[j]).toNat:Int)) (by simp [bv,List.getElem?_eq_getElem hj])
   exact this
structure Putting (w wr:World) (v:Value) (rs:List Int):Prop where
 own:wr.ownsRow w.heap.size 5 1 v (encode rs).length (bv (encode rs))
 bel:Below w.heap.size w wr
theorem Putting.start (w:World):Putting w w (.slice none 0 0) []:=⟨World.ownsRow_nil _ _ _ _,Below.refl _ _⟩
theorem Putting.below {w wr w2:World} {v:Value} {rs:List Int} (h:Putting w wr v rs) (hb:Below wr.heap.size wr w2):Putting w w2 v rs :=
 ⟨h.own.kept (grow_of_below hb none) (by cases hv:v.ownBlock <;> simp),h.bel.trans (hb.mono h.bel.size)⟩
theorem Putting.put {w wr w2:World} {v v':Value} {rs:List Int} {r:Int} (h:Putting w wr v rs)
  (hp:w2.ownsRow w.heap.size 5 1 v' ((encode rs).length+(enc r).length) (bv (encode rs) ++ bv (enc r))) (hg:wr.grownBy w2 v.ownBlock):Putting w w2 v' (rs ++ [r]):=by
 refine ⟨?_,h.bel.grown hg h.bel.size (fun k hk=>(h.own.lt k hk).1)⟩
 rw [encode_snoc,List.length_append,bv_append]
 exact hp
set_option maxHeartbeats 800000 in
theorem encode_any (A:Option Addr) (n c:Nat) (rs:List Int) (w:World) (hR:Reads w w.heap.size 1 A n (rs.map (Value.int .i64))) (hn:n≤35000000000000) :
  Calls Tryz.prog 183 #[.slice A n c] w fun e w'=>e=.returned (.string (str (encode rs)))∧Below w.heap.size w w':=by
 have hlen:rs.length=n:=by have:=hR.1; simpa using this
 have HR:=zh hR
 have Hl:=zh hlen
 have St:=zh (Putting.start w)
 clear hR hlen
 go_enter Tryz.func183,Tryz.ntmps183
 go_wp2
 go_loopw [3,8] (fun v i wr=>∃ k:Nat,k≤n∧i=.int .i64 k∧Putting w wr v (rs.take k)) (fun _ i _=>n - (intOf i).toNat)
 case atStart=>exact ⟨0,Nat.zero_le _,rfl,St.out⟩
 case round =>
  obtain ⟨k,hk,rfl,hp⟩:=hrel
  have hel:=encode_len (rs.take k)
  have htl:(rs.take k).length≤n:=by rw [List.length_take]; omega
  by_cases hlt:k<n
  ·obtain ⟨ab,ao,hkl,rfl,hab,hcw⟩:=HR.out.at_map hlt
   have hcx:=(hp.bel.cell (p:=⟨ab,ao+k,none⟩) hab).trans hcw
   have hts:rs.take (k+1)=rs.take k ++ [rs[k]]:=by rw [List.take_succ_eq_append_getElem hkl]
   have Hts:=zh hts
   have c1:=put_any w.heap.size _ u3 _ rs[k] wr hp.own hp.bel.size (by omega)
   have Hp:=zh hp
   clear hts hcw hp
   generalize rs[k]=r at *
   go_wp2_with fail
   refine c1.mono ?_
   rintro e w2 ⟨v',rfl,hown2,hg2⟩
   have Hp2:=zh (Hp.out.put hown2 hg2)
   clear hown2 hg2
   go_wp2
   go_roundw
   case rel=>exact ⟨k+1,by omega,by go_num,by rw [Hts.out]; exact Hp2.out⟩
   case measure=>simp [intOf]; omega
  ·have hall:rs.take k=rs:=List.take_of_length_le (by rw [Hl.out]; omega)
   have hcv:=conv_own (P:=Tryz.prog) (tb:=30) (ts:=9) hp.own Tryz.underlying30 Tryz.underlying5 Tryz.underlying9
   have Hall:=zh hall
   have Hb:=zh hp.bel
   clear hall hp hel htl
   go_wp2
   go_ret
   exact ⟨by rw [Hall.out]; rfl,Hb.out⟩
end Go.Proofs.YtmomjpolkkbhnaaGreat.Ut
end
