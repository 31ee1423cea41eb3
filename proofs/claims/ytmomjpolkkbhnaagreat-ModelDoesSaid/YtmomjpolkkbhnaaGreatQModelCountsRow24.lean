/- cursor.Encode: the walk. -/
import Derived.Lib.AppendStr
import Derived.Lib.SlBytesConst
import Derived.ArgAppend
import Derived.Lib.SmallJoins
import Derived.Test.YtmomjpolkkbhnaaGreatQModelCountsRow19
import Derived.Test.YtmomjpolkkbhnaaGreatQModelCountsRow26
set_option linter.unusedSimpArgs false
set_option maxRecDepth 100000
set_option maxHeartbeats 100000000
open Go.Proofs.Tryz
namespace Go.Proofs.YtmomjpolkkbhnaaGreat
namespace Cu
open Go.RowKit Cr Qp Qy
structure BytesTo (w:World) (L:List UInt8) (E:Int) (e:Ending) (w':World):Prop where
 ex:∃v,e=.returned (.tuple #[v,.int .i64 E])∧w'.ownsRow w.heap.size 5 1 v L.length (bv L)
 bel:zWW w w'
structure Enc (w wr:World) (a:Int) (q:ByteArray) (v:Value) (M:List UInt8):Prop where
 box:Blk wr w.heap.size 122 #[.int .i64 a,.string q]
 own:wr.ownsRow (w.heap.size+1) 5 1 v M.length (bv M)
 bel:zWW w wr
theorem Enc.alloc{w wr:World}{a:Int}{q:ByteArray}{v:Value}{M:List UInt8}(h:Enc w wr a q v M)(o:Obj):Enc w (wr.alloc o) a q v M:=
 ⟨h.box.alloc o,h.own.alloc o,h.bel.alloc h.bel.size o⟩
theorem Enc.below{w wr w2:World}{a:Int}{q:ByteArray}{v:Value}{M:List UInt8}(h:Enc w wr a q v M)(hb:zWW wr w2):Enc w w2 a q v M:=
 ⟨h.box.below hb h.box.lt,h.own.kept (aJ hb none) (by cases v.ownBlock<;>simp),h.bel.trans (hb.mono h.bel.size)⟩
theorem Enc.put{w wr w2:World}{a:Int}{q:ByteArray}{v v':Value}{M N:List UInt8}{n:Nat}(h:Enc w wr a q v M)(hn:N.length=n)(hown:w2.ownsRow (w.heap.size+1) 5 1 v' (M.length+n) (bv M++bv N))(hg:wr.grownBy w2 v.ownBlock):Enc w w2 a q v' (M++N):=by
 subst hn;refine⟨h.box.grown hg (fun e=>?_),?_,h.bel.grown hg h.bel.size (fun b e=>?_)⟩
 ·have:=(h.own.lt _ e.symm).1;omega
 ·rw[zJ,qo];exact hown
 have:=(h.own.lt _ e).1;omega
structure Lit3 (w wr:World) (a:Int) (q:ByteArray) (v:Value):Prop where
 box:Blk wr w.heap.size 122 #[.int .i64 a,.string q]
 ex:∃g,v=.slice (some ⟨g,0,none⟩) 3 3∧∀j u,(bv [76,67,1])[j]?=some u→wr.cell? ⟨g,j,none⟩=some u
 bel:zWW w wr
theorem Lit3.alloc{w wr:World}{a:Int}{q:ByteArray}{v:Value}(h:Lit3 w wr a q v)(o:Obj):Lit3 w (wr.alloc o) a q v:=by
 obtain⟨hb,⟨g,e,hc⟩,hl⟩:=h;exact⟨hb.alloc o,⟨g,e,fun j u hu=>Lib.cell?_alloc_marked o (hc j u hu)⟩,hl.alloc hl.size o⟩
theorem Lit3.put{w wr w2:World}{a:Int}{q:ByteArray}{v v':Value}{N:List UInt8}{n base:Nat}(h:Lit3 w wr a q v)(hn:N.length=n)(hb:w.heap.size+1≤base)(hown:w2.ownsRow base 5 1 v' (3+n) (bv [76,67,1]++bv N))(hg:wr.grownBy w2 none):Enc w w2 a q v' ([76,67,1]++N):=by
 subst hn;refine⟨h.box.grown hg jz,?_,h.bel.grown hg h.bel.size (fun b e=>by cases e)⟩;rw[zJ,qo];exact Joins.ownsRow_le hown hb
theorem eX:(prog.info? 5).map (fun i=>(i.zero,i.size,i.bytes))=some (some (.int .u8 0),1,1):=by kernel_rfl
theorem be2(n:Nat):be 2 n=[UInt8.ofNat (n/256),UInt8.ofNat n]:=by simp[be,List.range,List.range.loop]
theorem Fg(n k:Nat)(h:k<4):(le4 n).take (k+1)=(le4 n).take k ++ [UInt8.ofNat (n/2 ^ (8*k))]:=by
 match k,h with
 | 0,_=>simp[le4]
 | 1,_=>rfl
 | 2,_=>rfl
 | 3,_=>rfl
theorem qR(n m:Nat):(n:Int)/2 ^ m%256=((UInt8.ofNat (n/2 ^ m)).toNat:Int):=by
 rw[u8n,Int.natCast_emod,Int.natCast_ediv,Int.natCast_pow];rfl
theorem wN(n:Nat):(n:Int)/256%256=((UInt8.ofNat (n/256)).toNat:Int):=by
 rw[u8n];omega
theorem yH(n:Nat):(n:Int)%256=((UInt8.ofNat n).toNat:Int):=by
 rw[u8n];omega
theorem tP(a:Nat)(q:ByteArray)(w:World)(h:IsC (a:Int) q):Calls prog 69 #[.agg #[.int .i64 (a:Int),.string q]] w (BytesTo w (enc a q.data.toList) 0):=by
 obtain⟨i0,hi0,hz0,hz1,hz2⟩:=info_parts eX;have hb0:=(zw w.heap.size w).alloc (zG _) (.cells #[.int .i64 (a:Int),.string q] 122);have hB0:=Blk.new w 122 #[.int .i64 (a:Int),.string q];have hz0':(w.alloc (.cells #[.int .i64 (a:Int),.string q] 122)).heap.size=w.heap.size+1:=jz;have c1:=xM (a:Int) q (w.alloc (.cells #[.int .i64 (a:Int),.string q] 122));rw[mM h]at c1;have hq:=h.short;have ha:(a:Int)≤1099511627776:=h.2.1;have Hb0:=zh hb0;have HB0:=zh hB0;have Hz0:=zh hz0';clear hb0 hB0 hz0' h;go_enter func69,ntmps69;go_wp2_with fail;refine c1.mono ?_;rintro e w1 ⟨rfl,hb1⟩;have hsz1:w.heap.size+1≤w1.heap.size:=by have:=hb1.size;have:=Hz0.out;omega
 have hL1:Lit3 w (w1.alloc (.cells #[.int .u8 76,.int .u8 67,.int .u8 1] 5 (3,4))) (a:Int) q (.slice (some ⟨w1.heap.size,0,none⟩) 3 3):=by
  refine⟨(HB0.out.below hb1 (by rw[Hz0.out];omega)).alloc _,⟨_,rfl,fun j u hu=>?_⟩,(Hb0.out.trans (hb1.mono (by rw[Hz0.out];omega))).alloc jo _⟩;rw[World.cell?_alloc_mark];rw[←hu];simp[bv]
 have kc:=fun(w:World) (C:Array Value) (n c:Nat)=>Lib.run_convert_bytes_const (P:=prog) w 30 5 C n c underlying30 underlying5
 have HL1:=zh hL1;clear c1 hb1 HB0 Hb0 Hz0 hL1;go_wp2_with fail;clear kc;generalize hw2:w1.alloc (.cells #[.int .u8 76,.int .u8 67,.int .u8 1] 5 (3,4))=w2 at *;clear hw2;go_loopw [4,5] (fun v i wr=>∃k:Nat,k≤8∧i=.int .i64 (7-(k:Int))∧((k=0∧Lit3 w wr (a:Int) q v)∨(0<k∧Enc w wr (a:Int) q v ([76,67,1]++(be 8 a).take k)))) (fun _ i _=>(intOf i+1).toNat)
 case atStart=>exact⟨0,jo,rfl,.inl ⟨rfl,HL1.out⟩⟩
 obtain⟨k,hk,rfl,hE⟩:=hrel;by_cases hlt:k<8
 ·have hi0':(0:Int)≤7-(k:Int):=jo;have hby:=qR a (8*(7-k));have Hs:Hid ((be 8 a).take (k+1)=(be 8 a).take k ++ [UInt8.ofNat (a/2 ^ (8*(7-k)))]):=zh (xL 8 a k hlt);generalize UInt8.ofNat (a/2 ^ (8*(7-k)))=x at *;rcases hE with⟨rfl,hE⟩|⟨hk0,hE⟩
  ·have hc0:=hE.box.cell 0;have hc1:=hE.box.cell 1;have hbl:=hE.box.lt;have HE:=zh hE;obtain⟨g,rfl,_⟩:=hE.ex;simp at hc0 hc1;simp at hby;have hby':(a:Int)/72057594037927936=(x.toNat:Int):=jo;clear hby;clear hE;go_wp2_with (at_builtin;refine wpList_append_grows _ rfl _ _ 30 rfl 5 i0 _ 1 1 underlying30 hi0 hz0 hz1 hz2 rfl jd _ 3 3 (bv [76,67,1]) rfl (fun h=>by cases h) rfl ?h1 ⟨wr.heap.size,0,none⟩ 1 1 [.int .u8 (x.toNat:Int)] rfl rfl ?d1 ?d2 ?d6 ?d3 ?d4 ?_)
   case h1=>
    intro b hb j u hu;obtain⟨g',e',hc'⟩:=(HE.out.alloc (.cells #[.int .u8 (x.toNat:Int)] 5)).ex;injection hb with hb;injection e' with e' _ _;injection e' with e';injection e' with e';subst hb;rw[Addr.add_lit,zf,e'];exact hc' j u hu
   case d1=>exact zy (cs:=#[.int .u8 (x.toNat:Int)]) (t:=5) (fr:=(0,0)) (vI wr _)
   case d2=>intro u hu;simp at hu;subst hu;rfl
   case d6=>omega
   case d3=>unfold maxLen;omega
   case d4=>omega
   intro v' w5 hown5 hg5;have Fin:=zh ((HE.out.alloc (.cells #[.int .u8 (x.toNat:Int)] 5)).put (N:=[x]) rfl jo hown5 hg5);clear hown5 hg5;go_wp2;go_roundw
   case rel=>exact⟨1,jo,jr,.inr ⟨jo,by have:=Hs.out;simp at this;rw[this];exact Fin.out⟩⟩
   simp[intOf]
  have hc0:=hE.box.cell 0;have hc1:=hE.box.cell 1;have hbl:=hE.box.lt;have HE:=zh hE;simp at hc0 hc1
  have hln:([76,67,1]++(be 8 a).take k:List UInt8).length≤11:=by
   rw[zJ,zK,cJ];simp;omega
  have Happ:Hid ([76,67,1]++(be 8 a).take (k+1)=([76,67,1]++(be 8 a).take k) ++ [x]):=zh (by rw[Hs.out,List.append_assoc]);obtain⟨A4,c4,rfl,_⟩:=aU hE.own;clear hE;generalize ([76,67,1]++(be 8 a).take k:List UInt8)=M at *;have Hln:=zh hln;clear hln;go_wp2_with (at_builtin;refine vH _ rfl _ _ 30 rfl (w.heap.size+1) 5 i0 _ 1 1 underlying30 hi0 hz0 hz1 hz2 rfl jd _ _ _ rfl (HE.out.alloc (.cells #[.int .u8 (x.toNat:Int)] 5)).own ⟨wr.heap.size,0,none⟩ 1 1 [.int .u8 (x.toNat:Int)] rfl rfl ?d1 ?d2 ?d3 ?d4 ?d5 ?_)
  case d1=>exact zy (cs:=#[.int .u8 (x.toNat:Int)]) (t:=5) (fr:=(0,0)) (vI wr _)
  case d2=>intro u hu;simp at hu;subst hu;rfl
  case d3=>unfold maxLen;have:=Hln.out;omega
  case d4=>have:=Hln.out;omega
  case d5=>have:=HE.out.box.lt;simp;omega
  intro v' w5 hown5 hg5 _;have Fin:=zh ((HE.out.alloc (.cells #[.int .u8 (x.toNat:Int)] 5)).put (N:=[x]) rfl hown5 hg5);clear hown5 hg5;go_wp2;go_roundw
  case rel=>exact⟨k+1,jo,by congr 1;omega,.inr ⟨jo,by rw[Happ.out];exact Fin.out⟩⟩
  simp[intOf];omega
 have hneg:7-(k:Int)<0:=jo
 have hE2:Enc w wr (a:Int) q u4 ([76,67,1]++be 8 a):=by
  rcases hE with⟨rfl,hE⟩|⟨hk0,hE⟩
  ·omega
  rw[zR (by rw[cJ];omega)]at hE;exact hE
 have HE:=zh hE2;have hc0:=hE2.box.cell 0;have hc1:=hE2.box.cell 1;have hbl:=hE2.box.lt;simp at hc0 hc1;have hln:([76,67,1]++be 8 a:List UInt8).length=11:=by rw[zJ,cJ];rfl
 obtain⟨A4,c4,rfl,_⟩:=aU hE2.own;have hy1:(q.size:Int)/256=((UInt8.ofNat (q.size/256)).toNat:Int):=by have:=wN q.size;omega
 have hy2:=yH q.size
 have hpre:pre a q.data.toList=([76,67,1]++be 8 a) ++ [UInt8.ofNat (q.size/256),UInt8.ofNat q.size]++q.data.toList:=by
  unfold pre;rw[aB,be2]
 have Hpre:=zh hpre;have Henc:Hid (enc a q.data.toList=pre a q.data.toList++le4 (crc (pre a q.data.toList))):=zh rfl;clear hE hE2 hpre;generalize UInt8.ofNat (q.size/256)=x1 at *;generalize UInt8.ofNat q.size=x2 at *;generalize ([76,67,1]++be 8 a:List UInt8)=M at *;have Hln:=zh hln;clear hln;go_wp2_with (at_builtin;refine vH _ rfl _ _ 30 rfl (w.heap.size+1) 5 i0 _ 1 1 underlying30 hi0 hz0 hz1 hz2 rfl jd _ _ _ rfl (HE.out.alloc (.cells #[.int .u8 (x1.toNat:Int),.int .u8 (x2.toNat:Int)] 5)).own ⟨wr.heap.size,0,none⟩ 2 2 [.int .u8 (x1.toNat:Int),.int .u8 (x2.toNat:Int)] rfl rfl ?d1 ?d2 ?d3 ?d4 ?d5 ?_)
 case d1=>exact zy (cs:=#[.int .u8 (x1.toNat:Int),.int .u8 (x2.toNat:Int)]) (t:=5) (fr:=(0,0)) (vI wr _)
 case d2=>intro u hu;simp at hu;rcases hu with rfl|rfl<;>rfl
 case d3=>unfold maxLen;have:=Hln.out;omega
 case d4=>have:=Hln.out;omega
 case d5=>have:=HE.out.box.lt;simp;omega
 intro v' w5 hown5 hg5 _;have H6:=zh ((HE.out.alloc (.cells #[.int .u8 (x1.toNat:Int),.int .u8 (x2.toNat:Int)] 5)).put (N:=[x1,x2]) rfl hown5 hg5);clear hown5 hg5;have hd0:=H6.out.box.cell 0;have hd1:=H6.out.box.cell 1;have hbl5:=H6.out.box.lt;simp at hd0 hd1;have hln6:(M ++ [x1,x2]).length=13:=by rw[zJ,Hln.out];rfl
 obtain⟨A6,c6,rfl,_⟩:=aU H6.out.own;generalize (M ++ [x1,x2])=M6 at *;have Hln6:=zh hln6;clear hc0 hc1 HE hln6 hy1 hy2;go_wp2_with (at_builtin;refine Lib.wpList_append_own_string _ rfl _ _ 30 9 rfl (w.heap.size+1) 5 i0 underlying30 underlying9 hi0 hz0 hz1 hz2 _ _ _ rfl H6.out.own q rfl ?d3 ?d4 ?d5 ?_)
 case d3=>unfold maxLen;have:=Hln6.out;omega
 case d4=>have:=Hln6.out;omega
 case d5=>omega
 intro v7 w7 hown7 hg7 _;have H7:=zh (H6.out.put (N:=q.data.toList) (aB q) hown7 hg7);clear hown7 hg7;rw[←Hpre.out]at H7;have hlp:(pre a q.data.toList).length≤1037:=by rw[qN,aB];omega
 generalize pre a q.data.toList=L at *;have Hlp:=zh hlp;obtain⟨A7,c7,rfl,hR7⟩:=aU H7.out.own;have hbl7:=H7.out.box.lt;have H8:=zh (H7.out.alloc (.cells #[.slice A7 L.length c7] 30));have Hp:=zh (Blk.new w7 30 #[.slice A7 L.length c7]);have Hz7:Hid ((w7.alloc (.cells #[.slice A7 L.length c7] 30)).heap.size=w7.heap.size+1):=zh jz;have hb8:=(zw w7.heap.size w7).alloc (zG _) (.cells #[.slice A7 L.length c7] 30);have HR8:=zh ((hR7.below hb8).more hb8.size);clear hR7 H7 H6 hd0 hd1 hlp hb8;go_wp2_with fail;generalize hw8:w7.alloc (.cells #[.slice A7 L.length c7] 30)=w8 at *;clear hw8;have c9:=IX w7.heap.size A7 L.length c7 1 L w8 (Hp.out.cell 0) (by rw[Hz7.out];omega) HR8.out (by have:=Hlp.out;omega);refine c9.mono ?_;rintro e w9 ⟨rfl,hb9⟩;have H9:=zh (H8.out.below hb9);have hs32:=yE L;clear c9 hb9 H8 HR8 Hp Hz7;generalize hcs:crc L=s at *;have Hcs:=zh hcs;clear hcs;have hs0:(0:Int)≤(s:Int):=jo;have Hs32:=zh hs32;clear hs32;go_wp2_with fail;go_loopw [4,45] (fun v i wr=>∃k:Nat,k≤4∧i=.int .i64 (k:Int)∧Enc w wr (a:Int) q v (L++(le4 s).take k)) (fun _ i _=>4-(intOf i).toNat)
 case atStart=>exact⟨0,jo,rfl,by simpa using H9.out⟩
 obtain⟨j,hj,rfl,hE⟩:=hrel;have HE:=zh hE;have hbl9:=hE.box.lt;obtain⟨A4,c4,rfl,_⟩:=aU hE.own;clear hE;by_cases hlt:j<4
 ·have hby:=qR s (8*j)
  have hln:(L++(le4 s).take j).length≤1041:=by
   rw[zJ,zK,qM];have:=Hlp.out;omega
  have Happ:Hid (L++(le4 s).take (j+1)=(L++(le4 s).take j) ++ [UInt8.ofNat (s/2 ^ (8*j))]):=zh (by rw[Fg s j hlt,List.append_assoc]);generalize UInt8.ofNat (s/2 ^ (8*j))=x at *;generalize (L++(le4 s).take j)=M4 at *;have Hln4:=zh hln;clear hln;go_wp2_with (at_builtin;refine vH _ rfl _ _ 30 rfl (w.heap.size+1) 5 i0 _ 1 1 underlying30 hi0 hz0 hz1 hz2 rfl jd _ _ _ rfl (HE.out.alloc (.cells #[.int .u8 (x.toNat:Int)] 5)).own ⟨wr.heap.size,0,none⟩ 1 1 [.int .u8 (x.toNat:Int)] rfl rfl ?d1 ?d2 ?d3 ?d4 ?d5 ?_)
  case d1=>exact zy (cs:=#[.int .u8 (x.toNat:Int)]) (t:=5) (fr:=(0,0)) (vI wr _)
  case d2=>intro u hu;simp at hu;subst hu;rfl
  case d3=>unfold maxLen;have:=Hln4.out;omega
  case d4=>have:=Hln4.out;omega
  case d5=>have:=HE.out.box.lt;simp;omega
  intro v' w5 hown5 hg5 _;have Fin:=zh ((HE.out.alloc (.cells #[.int .u8 (x.toNat:Int)] 5)).put (N:=[x]) rfl hown5 hg5);clear hown5 hg5;go_wp2;go_roundw
  case rel=>exact⟨j+1,jo,ju,by rw[Happ.out];exact Fin.out⟩
  simp[intOf];omega
 have HE3:Hid (Enc w wr (a:Int) q (.slice A4 (L++(le4 s).take j).length c4) (enc a q.data.toList)):=zh (by
  have:=HE.out;rw[zR (l:=le4 s) (by rw[qM];omega)]at this ⊢;rw[Henc.out]
  exact this)
 clear HE;go_wp2;go_ret2;exact⟨⟨_,rfl,Joins.ownsRow_le HE3.out.own jo⟩,HE3.out.bel⟩
end Cu

namespace Cu
open Go.RowKit Cr Qp Qy
theorem yK(a:Int)(q:ByteArray)(w:World):Calls prog 120 #[.agg #[.int .i64 a,.string q]] w fun e w'=>e=.returned (.bool (iO a q))∧zWW w w':=by
 have hb0:=(zw w.heap.size w).alloc (zG _) (.cells #[.int .i64 a,.string q] 122);have hB0:=Blk.new w 122 #[.int .i64 a,.string q];have hz0:(w.alloc (.cells #[.int .i64 a,.string q] 122)).heap.size=w.heap.size+1:=jz;have c1:=lD q (w.alloc (.cells #[.int .i64 a,.string q] 122));generalize hm:iO a q=b;have Hm:=zh hm;have Hb0:=zh hb0;have HB0:=zh hB0;have Hz0:=zh hz0;clear hm hb0 hB0 hz0;go_enter func120,ntmps120;go_wp2_with fail;refine c1.mono ?_;rintro e w1 ⟨E,oq,a0,a1,a2,a3,hp,rfl,hF,hb1⟩;have hbx:=(HB0.out.below hb1 (by rw[Hz0.out];omega)).alloc (.cells #[a0,a1,a2,a3] 60);have hz1:=hb1.size;have Hfin:=zh ((Hb0.out.trans (hb1.mono (by rw[Hz0.out];omega))).alloc (by have:=Hz0.out;omega) (.cells #[a0,a1,a2,a3] 60));have HI:=zh (yG (a:=a) hp);have hc0:=hbx.cell 0;have hc1:=hbx.cell 1;have hlt:w.heap.size<w1.heap.size:=by have:=Hz0.out;omega
 obtain⟨A',n',c',C',m',d',e4⟩:=hF.four;simp only[zQ,and_true]at e4;obtain⟨rfl,rfl,rfl,rfl⟩:=e4;simp at hc0 hc1;clear c1 hp hF hb1 hbx hz1 HB0 Hb0 Hz0;generalize (oq.getD noQ).kind=k9 at *;generalize (oq.getD noQ).name=s9 at *
 have key:Hid (∀x:Bool,(x=true↔(0≤a∧a≤1099511627776∧E=0))→x=b):=zh (fun x hx=>by
  rw[←Hm.out];by_cases h:IsC a q
  ·rw[mM h];exact hx.2 (HI.out.1 h)
  rw[mW h]
  cases x with
  | false=>rfl
  | true=>exact absurd (HI.out.2 (hx.1 rfl)) h)
 clear HI Hm;by_cases h0:0≤a
 ·by_cases h1:a≤1099511627776
  ·by_cases hE:E=0
   ·subst hE;go_wp2;go_ret;exact⟨by rw[←key.out true (by simp[h0,h1])];rfl,Hfin.out⟩
   have hE':(E==0)=false:=by rw[zM];exact hE
   have Hn:=zh (key.out false (by simp[hE]));clear hE;go_wp2;go_ret;exact⟨by rw[←Hn.out];rfl,Hfin.out⟩
  have Hn:=zh (key.out false (by simp[h1]));have h2:1099511627776<a:=jo;go_wp2;go_ret;exact⟨by rw[←Hn.out];rfl,Hfin.out⟩
 have Hn:=zh (key.out false (by simp[h0]));have h2:a<0:=jo;go_wp2;go_ret;exact⟨by rw[←Hn.out];rfl,Hfin.out⟩
end Cu

namespace Cu
open Go.RowKit Cr Qp Qy
theorem uV(a:Int)(q:ByteArray)(w:World)(h:¬IsC a q):Calls prog 69 #[.agg #[.int .i64 a,.string q]] w (BytesTo w [] 250):=by
 have hb0:=(zw w.heap.size w).alloc (zG _) (.cells #[.int .i64 a,.string q] 122);have c1:=xM a q (w.alloc (.cells #[.int .i64 a,.string q] 122));rw[mW h]at c1;have Hb0:=zh hb0;clear hb0 h;go_enter func69,ntmps69;go_wp2_with fail;refine c1.mono ?_;rintro e w1 ⟨rfl,hb1⟩;have Hb1:=zt Hb0 hb1;clear c1 hb1;go_wp2;go_ret2;exact⟨⟨_,rfl,vM _ _ _ _⟩,Hb1.out⟩
theorem tT(a:Int)(q:ByteArray)(w:World)(h:¬IsC a q):Calls prog 86 #[.agg #[.int .i64 a,.string q]] w (BytesTo w [] 250):=by
 have hb0:=(zw w.heap.size w).alloc (zG _) (.cells #[.int .i64 a,.string q] 122);have c1:=yK a q (w.alloc (.cells #[.int .i64 a,.string q] 122));rw[mW h]at c1;have Hb0:=zh hb0;clear hb0 h;go_enter func86,ntmps86;go_wp2_with fail;refine c1.mono ?_;rintro e w1 ⟨rfl,hb1⟩;have Hb1:=zt Hb0 hb1;clear c1 hb1;go_wp2;go_ret2;exact⟨⟨_,rfl,vM _ _ _ _⟩,Hb1.out⟩
def Fs(w:World)(L:List UInt8)(e:Ending)(w':World):Prop:=∃v,e=.returned v∧w'.ownsRow w.heap.size 5 1 v L.length (bv L)∧zWW w w'
theorem uW(n s:Nat)(w:World)(hn:n≤1099511627776)(hs:s≤8):Calls prog 121 #[.int .i64 (n:Int),.int .i64 (s:Int)] w (Fs w (be s n)):=by
 obtain⟨i0,hi0,hz0,hz1,hz2⟩:=info_parts eX;have hn0:(0:Int)≤(n:Int):=jo;have hn1:(n:Int)≤1099511627776:=jo;go_enter func121,ntmps121;go_wp2_with fail;go_loopw [5,6] (fun v i wr=>∃k:Nat,k≤s∧i=.int .i64 ((s:Int)-1-(k:Int))∧wr.ownsRow w.heap.size 5 1 v ((be s n).take k).length (bv ((be s n).take k))∧zWW w wr) (fun _ i _=>(intOf i+1).toNat)
 case atStart=>exact⟨0,zS _,jz,vM _ _ _ _,zw _ _⟩
 obtain⟨k,hk,rfl,hown,hb⟩:=hrel;have Hb:=zh hb;have hbs:=hb.size;clear hb;by_cases hlt:k<s
 ·have hi0':(0:Int)≤(s:Int)-1-(k:Int):=jo;have hby:=qR n (8*(s-1-k));have Hs:Hid ((be s n).take (k+1)=(be s n).take k ++ [UInt8.ofNat (n/2 ^ (8*(s-1-k)))]):=zh (xL s n k hlt);obtain⟨A4,c4,rfl,_⟩:=aU hown;have Hown:=zh hown;clear hown;have hcast:(s:Int)-1-(k:Int)=((s-1-k:Nat):Int):=jo;rw[hcast];have hj8:s-1-k≤7:=jo;have Hj:Hid (s-1-(k+1)=s-1-k-1∧((s-1-k:Nat):Int)-1=(s:Int)-1-((k+1:Nat):Int)):=zh jo;have hln:((be s n).take k).length≤8:=by rw[zK,cJ];omega
  have Hk:Hid (k+1≤s):=zh hlt;clear hcast hi0' hs hlt hk;generalize s-1-k=j at *;generalize UInt8.ofNat (n/2 ^ (8*j))=x at *;generalize (be s n).take k=M at *;have Hln:=zh hln;clear hln;go_wp2_with (at_builtin;refine vH _ rfl _ _ 30 rfl w.heap.size 5 i0 _ 1 1 underlying30 hi0 hz0 hz1 hz2 rfl jd _ _ _ rfl (Hown.out.alloc (.cells #[.int .u8 (x.toNat:Int)] 5)) ⟨wr.heap.size,0,none⟩ 1 1 [.int .u8 (x.toNat:Int)] rfl rfl ?d1 ?d2 ?d3 ?d4 ?d5 ?_)
  case d1=>exact zy (cs:=#[.int .u8 (x.toNat:Int)]) (t:=5) (fr:=(0,0)) (vI wr _)
  case d2=>intro u hu;simp at hu;subst hu;rfl
  case d3=>unfold maxLen;have:=Hln.out;omega
  case d4=>have:=Hln.out;omega
  case d5=>simp;omega
  intro v' w5 hown5 hg5 _;have Fb:Hid (zWW w w5):=zh ((Hb.out.alloc hbs _).grown hg5 jm (fun b e=>(Hown.out.lt b e).1));have Fo:Hid (w5.ownsRow w.heap.size 5 1 v' (M ++ [x]).length (bv (M ++ [x]))):=zh (by rw[zJ,qo];exact hown5);clear hown5 hg5;go_wp2;go_roundw
  case rel=>exact⟨k+1,Hk.out,by rw[←Hj.out.2],by rw[Hs.out];exact Fo.out,Fb.out⟩
  simp[intOf]
 have hneg:(s:Int)-1-(k:Int)<0:=jo;have ht:(be s n).take k=be s n:=zR (by rw[cJ];omega);rw[ht]at hown;have Hown:=zh hown;clear hown ht hs;go_wp2;go_ret;exact⟨_,rfl,Hown.out,Hb.out⟩
end Cu

namespace Cu
open Go.RowKit Cr Qp Qy Ph
section
variable {P:Program} {o:Oper} {a:Act} {w:World} {R:Value→World→Prop}
theorem sN(s x:Operand)(t:TypeId)(ho:o.op=.call { callee:=.builtin .append,args:=#[s,x],argTypes:=#[t,t] })
  (base:Nat) (e:TypeId) (i:TypeInfo) (z:Value) (size bytes:Nat) (ht:P.underlying t=some (.slice e)) (hi:P.info? e=some i) (hz:i.zero=some z)
  (hsize:i.size=size) (hby:i.bytes=bytes) (hzs:z.cells.size=size) (hsz:0<size)
  (v:Value) (n:Nat) (xs:List Value) (hs:a.eval s=v) (hown:w.ownsRow base e size v n xs)
  (ad:Addr) (m c:Nat) (news:List Value) (hx:a.eval x=.slice (some ad) m c) (hl:news.length=m*size) (hnews:∀j u,news[j]?=some u→w.cell? (ad.add j)=some u) (h1:∀u∈news,u.oneCell'=true)
  (h63:n+m≤maxLen) (hbytes:(n+m)*bytes≤140737488355328) (hbase:base≤w.heap.size)
  (h:∀v' w',w'.ownsRow base e size v' (n+m) (xs++news)→w.grownBy w' v.ownBlock→R v' w'):bM P Tr w R ((execOp a.eval o).run P w):=by
 obtain⟨v',w',hr,h2,h3,_⟩:=run_append_own (P:=P) w base t o.type e i z size bytes ht hi hz hsize hby hzs hsz v n xs hown ad m c news hl hnews h1 h63 hbytes hbase;unfold execOp;simp only[ho,resolve,invoke,builtin,Sem.run_bind,Sem.run_pure,Result.andThen_ok,List.map_toArray,List.map_cons,List.map_nil,hs,hx,hr];exact⟨trivial,h v' w' h2 h3⟩
theorem yz(sl x:Operand)(t u:TypeId)(ho:o.op=.call { callee:=.builtin .append,args:=#[sl,x],argTypes:=#[t,u] })
  (base:Nat) (e:TypeId) (i:TypeInfo) (ht:P.underlying t=some (.slice e)) (hu:P.underlying u=some .string) (hi:P.info? e=some i) (hz:i.zero=some (.int .u8 0))
  (hsize:i.size=1) (hby:i.bytes=1)
  (v:Value) (n:Nat) (xs:List Value) (hs:a.eval sl=v) (hown:w.ownsRow base e 1 v n xs) (s:ByteArray) (hx:a.eval x=.string s)
  (h63:n+s.size≤maxLen) (hbytes:n+s.size≤140737488355328) (hbase:base≤w.heap.size)
  (h:∀v' w',w'.ownsRow base e 1 v' (n+s.size) (xs++Lib.strCells s)→w.grownBy w' v.ownBlock→R v' w'):bM P Tr w R ((execOp a.eval o).run P w):=by
 obtain⟨v',w',hr,h2,h3,_⟩:=Lib.run_append_own_string (P:=P) w base t u o.type e i ht hu hi hz hsize hby v n xs hown s h63 hbytes hbase;unfold execOp;simp only[ho,resolve,invoke,builtin,Sem.run_bind,Sem.run_pure,Result.andThen_ok,List.map_toArray,List.map_cons,List.map_nil,hs,hx,hr];exact⟨trivial,h v' w' h2 h3⟩
end
theorem wQ{w:World}{base:Nat}{e:TypeId}{g n c:Nat}{L:List UInt8}(h:w.ownsRow base e 1 (.slice (some ⟨g,0,none⟩) n c) n (bv L)):∀j u,(bv L)[j]?=some u→w.cell? ((⟨g,0,none⟩:Addr).add j)=some u:=h.cells rfl
theorem qw(L:List UInt8):∀u∈bv L,u.oneCell'=true:=by
 intro u hu;obtain⟨c,_,rfl⟩:=List.mem_map.1 hu;rfl
structure Two (w wx:World) (a:Int) (q:ByteArray) (v:Value) (M:List UInt8) (x:Value) (N:List UInt8):Prop where
 enc:Enc w wx a q v M
 row:wx.ownsRow (w.heap.size+1) 5 1 x N.length (bv N)
theorem sO(a:Nat)(q:ByteArray)(w:World)(h:IsC (a:Int) q):Calls prog 86 #[.agg #[.int .i64 (a:Int),.string q]] w (BytesTo w (enc a q.data.toList) 0):=by
 obtain⟨i0,hi0,hz0,hz1,hz2⟩:=info_parts eX;have hb0:=(zw w.heap.size w).alloc (zG _) (.cells #[.int .i64 (a:Int),.string q] 122);have hB0:=Blk.new w 122 #[.int .i64 (a:Int),.string q];have hz0':(w.alloc (.cells #[.int .i64 (a:Int),.string q] 122)).heap.size=w.heap.size+1:=jz;have c1:=yK (a:Int) q (w.alloc (.cells #[.int .i64 (a:Int),.string q] 122));rw[mM h]at c1;have hq:=h.short;have ha:(a:Int)≤1099511627776:=h.2.1;have Hb0:=zh hb0;have HB0:=zh hB0;have Hz0:=zh hz0';clear hb0 hB0 hz0' h;go_enter func86,ntmps86;go_wp2_with fail;refine c1.mono ?_;rintro e w1 ⟨rfl,hb1⟩;have hsz1:w.heap.size+1≤w1.heap.size:=by have:=hb1.size;have:=Hz0.out;omega
 have hE1:Enc w (w1.alloc (.cells #[.int .u8 76,.int .u8 67,.int .u8 1] 5)) (a:Int) q (.slice (some ⟨w1.heap.size,0,none⟩) 3 3) ([76,67,1]:List UInt8):=by
  refine⟨(HB0.out.below hb1 (by rw[Hz0.out];omega)).alloc _,?_,(Hb0.out.trans (hb1.mono (by rw[Hz0.out];omega))).alloc jo _⟩;have:=World.ownsRow_lit (base:=w.heap.size+1) (e:=5) (size:=1) w1 #[.int .u8 76,.int .u8 67,.int .u8 1] 3 hsz1 jx rfl;exact this
 have HE1:=zh hE1;have hd0:=hE1.box.cell 0;have hd1:=hE1.box.cell 1;have hbl:=hE1.box.lt;simp at hd0 hd1;clear c1 hb1 HB0 Hb0 Hz0 hE1;go_wp2_with fail;generalize hw2:w1.alloc (.cells #[.int .u8 76,.int .u8 67,.int .u8 1] 5)=w2 at *;clear hw2;have c2:=uW a 8 w2 jo jo;refine c2.mono ?_;rintro e w3 ⟨v3,rfl,hown3,hb3⟩;have H3:=zh (HE1.out.below hb3);have hbl3:=H3.out.box.lt;rw[cJ]at hown3;obtain⟨g3,q3,rfl⟩:=Joins.ownsRow_form hown3 jo;have Hown3:=zh hown3;clear c2 hb3 hown3 HE1 hd0 hd1;go_wp2_with (at_builtin;refine vH _ rfl _ _ 30 rfl (w.heap.size+1) 5 i0 _ 1 1 underlying30 hi0 hz0 hz1 hz2 rfl jd _ 3 _ rfl H3.out.own ⟨g3,0,none⟩ 8 q3 (bv (be 8 a)) rfl (by rw[dH,cJ]) (wQ Hown3.out) (qw _) ?d3 ?d4 ?d5 ?_)
 case d3=>unfold maxLen;omega
 case d4=>omega
 case d5=>omega
 intro v4 w4 hown4 hg4 _;have H4:=zh (H3.out.put (N:=be 8 a) (cJ 8 a) hown4 hg4);clear hown4 hg4 Hown3 H3;have hln:([76,67,1]++be 8 a:List UInt8).length=11:=by rw[zJ,cJ];rfl
 have hpre:pre a q.data.toList=([76,67,1]++be 8 a)++be 2 q.size++q.data.toList:=by
  unfold pre;rw[aB]
 have Hpre:=zh hpre;have Henc:Hid (enc a q.data.toList=pre a q.data.toList++le4 (crc (pre a q.data.toList))):=zh rfl;clear hpre;generalize ([76,67,1]++be 8 a:List UInt8)=M at *;have Hln:=zh hln;clear hln
 go_upto_region 4 with(fail)
 refine dN 9 (aI [(4,⟨Value,fun x=>x,fun x wx=>Two w wx (a:Int) q v4 M x (be 2 q.size)⟩),(5,⟨Value,fun x=>x,fun x wx=>Enc w wx (a:Int) q x (M++be 2 q.size)⟩),(8,⟨Value,fun x=>x,fun x wx=>Enc w wx (a:Int) q x (M++be 2 q.size++q.data.toList)⟩)])
  (fun wx=>Blk wx w.heap.size 122 #[.int .i64 (a:Int),.string q]) (fun wx=>Enc w wx (a:Int) q v4 M) jk jk (dS jk) H4.out.box ⟨H4.out.box,H4.out.own,H4.out.bel.drew⟩ ?_
 refine aD 1 ?_ rfl jr jr (fun wx hC=>?_) ?_;rotate_left
 ·have h0:=hC.cell 0;have h1:=hC.cell 1;simp at h0 h1;go_simp;all_goals with_reducible rfl
 try simp only[Act.put,zD,zE,zF]
 refine aD 2 ?_ rfl jr jr (fun wx hC=>?_) ?_;rotate_left
 ·have h0:=hC.cell 0;have h1:=hC.cell 1;simp at h0 h1;go_simp;all_goals with_reducible rfl
 try simp only[Act.put,zD,zE,zF]
 refine aD 3 ?_ rfl jr jr (fun wx hC=>?_) ?_;rotate_left
 ·have h0:=hC.cell 0;have h1:=hC.cell 1;simp at h0 h1;go_simp;all_goals with_reducible rfl
 try simp only[Act.put,zD,zE,zF]
 refine aD 4 ?_ rfl jr jr (fun wx hC=>?_) ?_;rotate_left
 ·have h0:=hC.cell 0;have h1:=hC.cell 1;simp at h0 h1;go_simp;all_goals with_reducible rfl
 try simp only[Act.put,zD,zE,zF]
 refine dz 5 _ rfl jr jr (fun wx hC hI=>?_) (fun x=>?_)
 ·refine aZ (f:=?_) (args:=?_) ?_ ?_;rotate_left 2
  ·have h0:=hC.cell 0;have h1:=hC.cell 1;simp at h0 h1;go_simp;all_goals first|with_reducible rfl|(refine⟨?_,?_⟩<;>with_reducible rfl)
  refine(uW q.size 2 wx jo jo).mono ?_;rintro e w9 ⟨v9,rfl,hown9,hb9⟩;exact⟨_,rfl,trivial,hC.below hb9 hC.lt,v9,rfl,hI.below hb9,Joins.ownsRow_le hown9 hC.lt⟩
 rename Value=>x4
 try simp only[Act.put,zD,zE,zF]
 refine dz 6 _ rfl jr jr (fun wx hC hI=>?_) (fun x=>?_)
 ·have hrow:=hI.row;rw[cJ]at hrow;obtain⟨g9,q9,hx9⟩:=Joins.ownsRow_form hrow jo;have hx9':x4=.slice (some ⟨g9,0,none⟩) 2 q9:=hx9;subst hx9';refine sN _ _ 30 rfl (w.heap.size+1) 5 i0 _ 1 1 underlying30 hi0 hz0 hz1 hz2 rfl jd v4 M.length (bv M) rfl hI.enc.own ⟨g9,0,none⟩ 2 q9 (bv (be 2 q.size)) rfl (by rw[dH,cJ]) (wQ hrow) (qw _) ?d3 ?d4 ?d5 ?_
  case d3=>unfold maxLen;have:=Hln.out;omega
  case d4=>have:=Hln.out;omega
  case d5=>have:=hC.lt;omega
  intro v9 w9 hown9 hg9;have hE:=hI.enc.put (N:=be 2 q.size) (cJ 2 _) hown9 hg9;exact⟨hE.box,v9,rfl,hE⟩
 rename Value=>x5
 try simp only[Act.put,zD,zE,zF]
 refine aD 7 ?_ rfl jr jr (fun wx hC=>?_) ?_;rotate_left
 ·have h0:=hC.cell 0;have h1:=hC.cell 1;simp at h0 h1;go_simp;all_goals with_reducible rfl
 try simp only[Act.put,zD,zE,zF]
 refine aD 8 ?_ rfl jr jr (fun wx hC=>?_) ?_;rotate_left
 ·have h0:=hC.cell 0;have h1:=hC.cell 1;simp at h0 h1;go_simp;all_goals with_reducible rfl
 try simp only[Act.put,zD,zE,zF]
 refine dz 9 _ rfl jr jr (fun wx hC hI=>?_) (fun x=>?_)
 ·refine yz _ _ 30 9 rfl (w.heap.size+1) 5 i0 underlying30 underlying9 hi0 hz0 hz1 hz2 x5 (M++be 2 q.size).length (bv (M++be 2 q.size)) rfl hI.own q rfl ?d3 ?d4 ?d5 ?_
  case d3=>unfold maxLen;rw[zJ,cJ];have:=Hln.out;omega
  case d4=>rw[zJ,cJ];have:=Hln.out;omega
  case d5=>have:=hC.lt;omega
  intro v9 w9 hown9 hg9;have hE:=hI.put (N:=q.data.toList) (aB q) hown9 hg9;exact⟨hE.box,v9,rfl,hE⟩
 rename Value=>x8
 try simp only[Act.put,zD,zE,zF]
 refine dZ (fun w7 hC hI=>?_);have H7:Hid (Enc w w7 (a:Int) q x8 (pre a q.data.toList)):=zh (by rw[Hpre.out];exact hI);clear hI hC H4;have hlp:(pre a q.data.toList).length≤1037:=by rw[qN,aB];omega
 generalize pre a q.data.toList=L at *;have Hlp:=zh hlp;obtain⟨A7,c7,rfl,hR7⟩:=aU H7.out.own;have hbl7:=H7.out.box.lt;have c9:=ij A7 L.length c7 L w7 hR7 jo;clear hR7 hlp;go_wp2_with fail;refine c9.mono ?_;rintro e w9 ⟨rfl,rfl⟩;clear c9;have hs32:=yE L;generalize hcs:crc L=s at *;clear hcs;have hs0:(0:Int)≤(s:Int):=jo;have Hs32:=zh hs32;clear hs32;have hb0:=yH s;have hb1:=wN s;have hb2:(s:Int)/65536%256=((UInt8.ofNat (s/65536)).toNat:Int):=by rw[u8n];omega
 have hb3:(s:Int)/16777216%256=((UInt8.ofNat (s/16777216)).toNat:Int):=by rw[u8n];omega
 have Hle:Hid (le4 s=[UInt8.ofNat s,UInt8.ofNat (s/256),UInt8.ofNat (s/65536),UInt8.ofNat (s/16777216)]):=zh rfl;generalize UInt8.ofNat s=y0 at *;generalize UInt8.ofNat (s/256)=y1 at *;generalize UInt8.ofNat (s/65536)=y2 at *;generalize UInt8.ofNat (s/16777216)=y3 at *;go_wp2_with (at_builtin;refine vH _ rfl _ _ 30 rfl (w.heap.size+1) 5 i0 _ 1 1 underlying30 hi0 hz0 hz1 hz2 rfl jd _ _ _ rfl (H7.out.own.alloc _) ⟨w7.heap.size,0,none⟩ 4 4 (bv [y0,y1,y2,y3]) rfl rfl ?d1 ?d2 ?d3 ?d4 ?d5 ?_)
 case d1=>exact zy (cs:=#[.int .u8 (y0.toNat:Int),.int .u8 (y1.toNat:Int),.int .u8 (y2.toNat:Int),.int .u8 (y3.toNat:Int)]) (t:=5) (fr:=(0,0)) (vI w7 _)
 case d2=>exact qw _
 case d3=>unfold maxLen;have:=Hlp.out;omega
 case d4=>have:=Hlp.out;omega
 case d5=>simp;omega
 intro v9 w9 hown9 hg9 _;have H9:Hid (Enc w w9 (a:Int) q v9 (L ++ [y0,y1,y2,y3])):=zh ((H7.out.alloc _).put (N:=[y0,y1,y2,y3]) rfl hown9 hg9);rw[←Hle.out,←Henc.out]at H9;clear hown9 hg9 H7;go_wp2;go_ret2;exact⟨⟨_,rfl,Joins.ownsRow_le H9.out.own jo⟩,H9.out.bel⟩
end Cu

namespace Cu
open Go.RowKit Qy Ph
theorem uY(w:World)(a:Int)(q:ByteArray):Fol w ((w.alloc (.cells #[.int .i64 a,.string q] 122)).alloc (.cells #[.int .i64 0,.string ⟨#[]⟩] 122)) a q (.slice none 0 0) []:=by
 have hz:(w.alloc (.cells #[.int .i64 a,.string q] 122)).heap.size=w.heap.size+1:=jz;have h2:=Blk.new (w.alloc (.cells #[.int .i64 a,.string q] 122)) 122 #[.int .i64 0,.string ⟨#[]⟩];rw[hz]at h2;have h1:=(Blk.new w 122 #[.int .i64 a,.string q]).alloc (.cells #[.int .i64 0,.string ⟨#[]⟩] 122);have hb:=((zw w.heap.size w).alloc (zG _) (.cells #[.int .i64 a,.string q] 122)).alloc jz (.cells #[.int .i64 0,.string ⟨#[]⟩] 122);exact⟨h1,h2,(DocsOwn.start w).below hb⟩
theorem CP(a k l:Int)(q:ByteArray)(A:Option Addr)(n c:Nat)(ds:List Dc)(w:World)(hD:DocsAt w w.heap.size A n ds)(hn:n≤1048576) :
  Calls prog 71 #[.agg #[.int .i64 a,.string q],.int .i64 k,.int .i64 l,.slice A n c] w (nP w (bL a k l ds) q):=by
 obtain⟨i0,hi0,hz0,hz1,hz2⟩:=info_parts fR;have HF0:=zh (uY w a q);have HD:=zh hD;have Hl:=zh hD.ln;clear hD;by_cases hl:l<1
 ·have Hfin:=zh (wP (a:=a) (k:=k) ds hl);go_enter func71,ntmps71
  go_upto_region 2 with(fail);generalize hw2:(w.alloc (.cells #[.int .i64 a,.string q] 122)).alloc (.cells #[.int .i64 0,.string ⟨#[]⟩] 122)=w2 at *;clear hw2;have hb0:=HF0.out.box.cell 0;have hb1:=HF0.out.box.cell 1;have hr0:=HF0.out.res.cell 0;have hr1:=HF0.out.res.cell 1;have hf0:=HF0.out.res.frozen 0;have hf1:=HF0.out.res.frozen 1;simp at hb0 hb1 hr0 hr1;have HD:=zh HF0.out.done;refine dN 2 (aI []) (fun wx=>wx=w2.drew) (fun _=>True) jk jk (dS jk) rfl trivial ?_;refine aD 1 ?_ rfl jr jr (fun wx hC=>?_) ?_;rotate_left
  ·subst hC;go_simp;all_goals with_reducible rfl
  try simp only[Act.put,zD,zE,zF]
  refine aD 2 ?_ rfl jr jr (fun wx hC=>?_) ?_;rotate_left
  ·subst hC;go_simp;all_goals with_reducible rfl
  try simp only[Act.put,zD,zE,zF]
  refine dZ (fun w9 hC hI=>?_);subst hC;clear hI;go_wp2;exact zu (iR rfl rfl rfl HD.out.1) rfl (by rw[Hfin.out];exact⟨_,rfl,HD.out.2⟩)
 have hl1:1≤l:=jo;go_enter func71,ntmps71;go_wp2_with fail;generalize hw2:(w.alloc (.cells #[.int .i64 a,.string q] 122)).alloc (.cells #[.int .i64 0,.string ⟨#[]⟩] 122)=w2 at *;clear hw2;go_loopw [10,11,21] (fun v m i wr=>∃j:Nat,j≤n∧i=.int .i64 (j:Int)∧m=.int .i64 (bK a (sel a k (ds.take j)))∧((sel a k (ds.take j)).length:Int)<l∧Fol w wr a q v (sel a k (ds.take j))) (fun _ _ i _=>n-(intOf i).toNat)
 case atStart=>exact⟨0,zS _,rfl,rfl,by simp[sel];omega,by simpa[sel]using HF0.out⟩
 obtain⟨j,hj,rfl,rfl,hlen,hF⟩:=hrel;have hsl:(sel a k (ds.take j)).length≤1048576:=zY (xO ..) (by rw[zK,Hl.out];omega);have hb0:=hF.box.cell 0;have hb1:=hF.box.cell 1;have hbl:=hF.box.lt;simp at hb0 hb1;by_cases hlt:j<n
 ·have hjl:j<ds.length:=by rw[Hl.out];exact hlt
  obtain⟨b,o,F,fn,fc,rfl,hbb,hc0,hc1,hc2,hR,hfl,hfn,hff,hfnil⟩:=HD.out.at_ hjl;have hc0:=(hF.own.bel.cell (p:=⟨b,o+j*3,none⟩) hbb).trans hc0;have hc1:=(hF.own.bel.cell (p:=⟨b,o+j*3+1,none⟩) hbb).trans hc1;have hc2:=(hF.own.bel.cell (p:=⟨b,o+j*3+2,none⟩) hbb).trans hc2;have Hyes:=zh (xN a k ds j hjl);have Hno:=zh (yL a k ds j hjl);have Hstop:=zh (pq (a:=a) (k:=k) (l:=l) (ds:=ds) (j+1) jo);have hDc:DcV w w.heap.size ds[j] [.int .i64 ds[j].seq,.int .i64 ds[j].at_,.slice F fn fc]:=⟨F,fn,fc,rfl,hR,hfl,hfn,hff,hfnil⟩;have HDc:=zh hDc;clear hR hfl hDc;generalize hdj:ds[j]=d at *;clear hdj;obtain⟨s,at_,fs⟩:=d
  dsimp only at hc0 hc1 HDc Hyes Hno
  have HF:=zh (hF.alloc (.cells #[.int .i64 s,.int .i64 at_,.slice F fn fc] 48));have Hdp:=zh (Blk.new wr 48 #[.int .i64 s,.int .i64 at_,.slice F fn fc])
  have Hrow:Hid (some wr.heap.size≠u10.ownBlock):=zh (fun e=>by
   obtain⟨vss,_,g2,_⟩:=hF.own.ex;have:=(g2.lt _ e.symm).2
   omega)
  have hb0w:=(World.cell?_alloc_lt wr (.cells #[.int .i64 s,.int .i64 at_,.slice F fn fc] 48) ⟨w.heap.size,0,none⟩ hbl).trans hb0;clear hF;by_cases h1:a<s
  ·by_cases h2:s≤k
   ·have h1':¬s≤a:=jo;have h2':¬k<s:=jo
    go_upto_region 9 with(fail);generalize hwd:wr.alloc (.cells #[.int .i64 s,.int .i64 at_,.slice F fn fc] 48)=wd at *;clear hwd;generalize hdp:wr.heap.size=dp at *;clear hdp;generalize hm:bK a (sel a k (ds.take j))=m at *;have Hm:=zh hm;have Hlst:Hid (bK a (sel a k (ds.take (j+1)))=max m s):=zh (by rw[Hyes.out h1 h2,tV,hm]);have Hys:Hid (sel a k (ds.take (j+1))=sel a k (ds.take j) ++ [⟨s,at_,fs⟩]):=zh (Hyes.out h1 h2);clear hm;generalize sel a k (ds.take j)=out at *
    refine dN 9 (aI [(2,⟨Nat,fun x=>.slice (some ⟨x,0,none⟩) 1 1,fun x wx=>Fol w wx a q u10 out∧Blk wx x 48 #[.int .i64 s,.int .i64 at_,.slice F fn fc]⟩),(3,⟨Value,fun x=>x,fun x wx=>Fol w wx a q x (out ++ [⟨s,at_,fs⟩])⟩)])
     (fun wx=>Blk wx dp 48 #[.int .i64 s,.int .i64 at_,.slice F fn fc]) (fun wx=>Fol w wx a q u10 out) jk jk (dS jk) Hdp.out.drew HF.out.drew ?_
    refine aD 1 ?_ rfl jr jr (fun wx hC=>?_) ?_;rotate_left
    ·have g0:=hC.cell 0;have g1:=hC.cell 1;have g2:=hC.cell 2;simp at g0 g1 g2;go_simp;all_goals with_reducible rfl
    try simp only[Act.put,zD,zE,zF]
    refine aD 2 ?_ rfl jr jr (fun wx hC=>?_) ?_;rotate_left
    ·have g0:=hC.cell 0;have g1:=hC.cell 1;have g2:=hC.cell 2;simp at g0 g1 g2;go_simp;all_goals with_reducible rfl
    try simp only[Act.put,zD,zE,zF]
    refine dz 3 _ rfl jr jr (fun wx hC hI=>?_) (fun x=>?_)
    ·refine fQ (u:=?_) (w':=?_) ?_ trivial ?_;rotate_left 2
     ·go_simp;all_goals first|with_reducible rfl|(refine⟨?_,?_⟩<;>with_reducible rfl)
     exact⟨hC.alloc _,wx.heap.size,rfl,hI.alloc _,Blk.new wx _ _⟩
    rename Nat=>x2
    try simp only[Act.put,zD,zE,zF]
    refine dz 4 _ rfl jr jr (fun wx hC hI=>?_) (fun x=>?_)
    ·obtain⟨hFx,hBx⟩:=hI;obtain⟨vss,g1,g2,g3⟩:=hFx.own.ex;refine sN _ _ 26 rfl w.heap.size 48 i0 _ 3 40 underlying26 hi0 hz0 hz1 hz2 rfl jd u10 out.length vss.flatten rfl g2 ⟨x2,0,none⟩ 1 1 [.int .i64 s,.int .i64 at_,.slice F fn fc] rfl rfl ?d1 ?d2 ?d3 ?d4 ?d5 ?_
     case d1=>exact zy (cs:=#[.int .i64 s,.int .i64 at_,.slice F fn fc]) (t:=48) (fr:=(0,0)) hBx
     case d2=>intro u hu;simp at hu;rcases hu with rfl|rfl|rfl<;>rfl
     case d3=>unfold maxLen;omega
     case d4=>omega
     case d5=>have:=hFx.box.lt;omega
     intro v9 w9 hown9 hg9;have hDx:DcV wx wx.heap.size ⟨s,at_,fs⟩ [.int .i64 s,.int .i64 at_,.slice F fn fc]:=(HDc.out.keep fun _ _ hp=>hFx.own.bel.cell hp).more hFx.own.bel.size
     have hFar:Far wx w.heap.size [.int .i64 s,.int .i64 at_,.slice F fn fc]:=by
      intro F' fn' fc' hv hn';simp only[zC,zB,Option.some.injEq,Value.slice.injEq]at hv;obtain⟨rfl,rfl,rfl⟩:=hv;obtain⟨F2,fn2,fc2,e2,hR2,_⟩:=HDc.out;simp only[zQ,Value.slice.injEq,and_true,true_and]at e2;obtain⟨rfl,rfl,rfl⟩:=e2;obtain⟨b',o',eF,hlt',_⟩:=hR2.2 hn';exact⟨b',o',eF,.inl hlt'⟩
     have hE:=hFx.put ⟨vss,g1,g2,g3,rfl⟩ hown9 hg9 hDx hFar;exact⟨hC.grown hg9 Hrow.out,v9,rfl,hE⟩
    rename Value=>x3
    try simp only[Act.put,zD,zE,zF]
    refine aD 5 ?_ rfl jr jr (fun wx hC=>?_) ?_;rotate_left
    ·have g0:=hC.cell 0;have g1:=hC.cell 1;have g2:=hC.cell 2;simp at g0 g1 g2;go_simp;all_goals with_reducible rfl
    try simp only[Act.put,zD,zE,zF]
    refine aD 6 ?_ rfl jr jr (fun wx hC=>?_) ?_;rotate_left
    ·have g0:=hC.cell 0;have g1:=hC.cell 1;have g2:=hC.cell 2;simp at g0 g1 g2;go_simp;all_goals with_reducible rfl
    try simp only[Act.put,zD,zE,zF]
    refine aD 7 ?_ rfl jr jr (fun wx hC=>?_) ?_;rotate_left
    ·have g0:=hC.cell 0;have g1:=hC.cell 1;have g2:=hC.cell 2;simp at g0 g1 g2;go_simp;all_goals with_reducible rfl
    try simp only[Act.put,zD,zE,zF]
    refine aD 8 ?_ rfl jr jr (fun wx hC=>?_) ?_;rotate_left
    ·have g0:=hC.cell 0;have g1:=hC.cell 1;have g2:=hC.cell 2;simp at g0 g1 g2;go_simp;all_goals with_reducible rfl
    try simp only[Act.put,zD,zE,zF]
    refine aD 9 ?_ rfl jr jr (fun wx hC=>?_) ?_;rotate_left
    ·have g0:=hC.cell 0;have g1:=hC.cell 1;have g2:=hC.cell 2;simp at g0 g1 g2;go_simp;all_goals with_reducible rfl
    try simp only[Act.put,zD,zE,zF]
    refine dZ (fun w6 hC hI=>?_);obtain⟨A6,c6,hx6,_⟩:=hI.own.read;have hx6':x3=.slice A6 (out ++ [(⟨s,at_,fs⟩:Dc)]).length c6:=hx6;subst hx6';have HI:=zh hI;have hl2:(out ++ [(⟨s,at_,fs⟩:Dc)]).length=out.length+1:=jz;have Hl2:=zh hl2;clear hI hC hx6 Hno Hyes HF Hdp hb0w hb0 hb1 hc0 hc1 hc2 hl2;generalize (out ++ [(⟨s,at_,fs⟩:Dc)])=out2 at *;rw[Hys.out]at Hlst Hstop;have Hlst2:Hid (bK a out2=max m s):=Hlst;have gb0:=HI.out.box.cell 0;have gf0:=HI.out.box.frozen 0;simp at gb0;by_cases he:(out2.length:Int)=l
    ·have Hfin:Hid (bL a k l ds=(out2,max m s)):=zh (by rw[Hstop.out he,Hlst2.out]);have hbe:((out2.length:Int)==l)=true:=by rw[he];simp
     clear he
     go_upto_region 12 with(fail);have H7:=zh (HI.out.after (max m s));clear HI;generalize hw7:w6.setCell ⟨w.heap.size,0,none⟩ (.int .i64 (max m s))=w7 at *;clear hw7;have hb0:=H7.out.box.cell 0;have hb1:=H7.out.box.cell 1;have hr0:=H7.out.res.cell 0;have hr1:=H7.out.res.cell 1;have hf0:=H7.out.res.frozen 0;have hf1:=H7.out.res.frozen 1;simp at hb0 hb1 hr0 hr1;have HD:=zh H7.out.done;refine dN 3 (aI []) (fun wx=>wx=w7.drew) (fun _=>True) jk jk (dS jk) rfl trivial ?_;refine aD 1 ?_ rfl jr jr (fun wx hC=>?_) ?_;rotate_left
     ·subst hC;go_simp;all_goals with_reducible rfl
     try simp only[Act.put,zD,zE,zF]
     refine aD 2 ?_ rfl jr jr (fun wx hC=>?_) ?_;rotate_left
     ·subst hC;go_simp;all_goals with_reducible rfl
     try simp only[Act.put,zD,zE,zF]
     refine aD 3 ?_ rfl jr jr (fun wx hC=>?_) ?_;rotate_left
     ·subst hC;go_simp;all_goals with_reducible rfl
     try simp only[Act.put,zD,zE,zF]
     refine dZ (fun w9 hC hI=>?_);subst hC;clear hI;go_wp2;exact zu (iR rfl rfl rfl HD.out.1) rfl (by rw[Hfin.out];exact⟨_,rfl,HD.out.2⟩)
    have hbe:((out2.length:Int)==l)=false:=by rw[zM];exact he
    have Hlt2:Hid ((out2.length:Int)<l):=zh (by have:=Hl2.out;omega);clear he;go_wp2;go_roundw
    case rel=>exact⟨j+1,jo,ju,by rw[Hys.out,Hlst2.out],by rw[Hys.out];exact Hlt2.out,by rw[Hys.out];exact HI.out⟩
    simp[intOf];omega
   have h1':¬s≤a:=jo;have h2':k<s:=jo;have Hsn:Hid (sel a k (ds.take (j+1))=sel a k (ds.take j)):=zh (Hno.out (fun h=>h2 h.2));have Hlen:=zh hlen;clear Hyes Hno h2 hlen;go_wp2;go_roundw
   case rel=>exact⟨j+1,jo,ju,by rw[Hsn.out],by rw[Hsn.out];exact Hlen.out,by rw[Hsn.out];exact HF.out⟩
   simp[intOf];omega
  have h1':s≤a:=jo;have Hsn:Hid (sel a k (ds.take (j+1))=sel a k (ds.take j)):=zh (Hno.out (fun h=>h1 h.1));have Hlen:=zh hlen;clear Hyes Hno h1 hlen;go_wp2;go_roundw
  case rel=>exact⟨j+1,jo,ju,by rw[Hsn.out],by rw[Hsn.out];exact Hlen.out,by rw[Hsn.out];exact HF.out⟩
  simp[intOf];omega
 have Hfin:Hid (bL a k l ds=(sel a k (ds.take j),max a k)):=zh (xP j jo (by rw[Hl.out];omega) hlen);have HF:=zh hF;have gf0:=hF.box.frozen 0;obtain⟨A6,c6,rfl,_⟩:=hF.own.read;clear hF hlen;generalize hm:bK a (sel a k (ds.take j))=m at *;clear hm;generalize sel a k (ds.take j)=out at *
 go_upto_region 15 with(fail);have H7:=zh (HF.out.after (max a k));clear HF;generalize hw7:wr.setCell ⟨w.heap.size,0,none⟩ (.int .i64 (max a k))=w7 at *;clear hw7 hb0 hb1;have hb0:=H7.out.box.cell 0;have hb1:=H7.out.box.cell 1;have hr0:=H7.out.res.cell 0;have hr1:=H7.out.res.cell 1;have hf0:=H7.out.res.frozen 0;have hf1:=H7.out.res.frozen 1;simp at hb0 hb1 hr0 hr1;have HD:=zh H7.out.done;refine dN 3 (aI []) (fun wx=>wx=w7.drew) (fun _=>True) jk jk (dS jk) rfl trivial ?_;refine aD 1 ?_ rfl jr jr (fun wx hC=>?_) ?_;rotate_left
 ·subst hC;go_simp;all_goals with_reducible rfl
 try simp only[Act.put,zD,zE,zF]
 refine aD 2 ?_ rfl jr jr (fun wx hC=>?_) ?_;rotate_left
 ·subst hC;go_simp;all_goals with_reducible rfl
 try simp only[Act.put,zD,zE,zF]
 refine aD 3 ?_ rfl jr jr (fun wx hC=>?_) ?_;rotate_left
 ·subst hC;go_simp;all_goals with_reducible rfl
 try simp only[Act.put,zD,zE,zF]
 refine dZ (fun w9 hC hI=>?_);subst hC;clear hI;go_wp2;exact zu (iR rfl rfl rfl HD.out.1) rfl (by rw[Hfin.out];exact⟨_,rfl,HD.out.2⟩)
end Cu
end Go.Proofs.YtmomjpolkkbhnaaGreat
