/- event.Docs, loggiaref10.Docs: the walks. -/
import Derived.Laws.ResultCell
import Derived.Laws.EntriesVeiled
import Derived.Test.YtmomjpolkkbhnaaGreatQModelCountsRow13
import Derived.Test.YtmomjpolkkbhnaaGreatQModelCountsRow17
set_option linter.unusedSectionVars false
set_option linter.unusedSimpArgs false
set_option linter.unusedVariables false
set_option maxRecDepth 20000
set_option maxHeartbeats 100000000
open Go.Proofs.Tryz
namespace Go.Proofs.YtmomjpolkkbhnaaGreat
namespace Ev
open Go.RowKit Ut Tk Qy Qp
def kw(w:World)(ds:List Dc)(e:Ending)(w':World):Prop:=∃v,e=.returned v∧DOwn w' w.heap.size v ds∧zWW w w'
theorem mI(seq:Int)(A:Option Addr)(n c:Nat)(l:List Evn)(w:World)(h:EvsAt w w.heap.size A n c l)(hok:bI seq l=0) :
  Calls prog 64 #[.agg #[.int .i64 seq,.slice A n c]] w (kw w (mkD seq l)):=by
 obtain⟨i0,hi0,hz0,hz1,hz2⟩:=info_parts fR;have hl:=h.ln;have hl1:l.length≤n:=jo;have hl2:n≤l.length:=jo;have hcap:=h.cap;have hok':=mR hok;have hn64:n≤64:=by have:=hok'.2.1;omega
 have hs1:1≤seq:=hok'.2.2.2.2.1;have hs2:seq≤1099511627777:=by have:=hok'.2.2.2.2.2;omega
 have hB1:zWW w (w.alloc (.cells #[.int .i64 seq,.slice A n c] 111)):=zRR _;have hF1:=h.grow hB1;have hX:=(Blk.new w 111 #[.int .i64 seq,.slice A n c]);have c1:=rO seq A n c l _ hF1;rw[hok]at c1;have C1:=zh c1;have OK:=zh hok'.2.2.1;have H:=zh (And.intro hF1 (And.intro hX hB1));clear hl h hF1 hX hB1 c1 hok hok';go_enter func64,ntmps64;go_wp2_with fail;refine C1.out.mono ?_;rintro e W0 ⟨rfl,hb0⟩;have H0:Hid (EvsAt W0 W0.heap.size A n c l∧Blk W0 w.heap.size 111 #[.int .i64 seq,.slice A n c]∧zWW w W0):=zh ⟨H.out.1.grow hb0,H.out.2.1.below hb0 H.out.2.1.lt,H.out.2.2.trans (hb0.mono H.out.2.2.size)⟩;have e1:=H0.out.2.1.cell 1;simp only[zA,zB,zC]at e1;clear hb0 H C1;go_wp2_with fail;clear e1;go_loopw [3,12] (fun v i wr=>∃k:Nat,k≤l.length∧i=.int .i64 (k:Nat)∧Hid (DOwn wr W0.heap.size v (mkD seq (l.take k)))∧Hid (zWW W0 wr)) (fun _ i _=>l.length-(intOf i).toNat)
 case atStart=>exact⟨0,zS _,rfl,zh (DOwn.start _ _),zh (zw _ _)⟩
 obtain⟨k,hk,rfl,hO,hB⟩:=hrel;have hBlk:=H0.out.2.1.below hB.out H0.out.2.1.lt;have d0:=hBlk.cell 0;have d1:=hBlk.cell 1;simp only[zA,zB,zC]at d0 d1;have HBK:=zh hBlk;clear hBlk;have hBw:Hid (zWW w wr):=zh (H0.out.2.2.trans (hB.out.mono H0.out.2.2.size));by_cases hlt:k<l.length
 ·have hkz:(k:Int)<(n:Int):=jo;have hk0:(0:Int)≤(k:Int):=jo;have hG:=H0.out.1.grow hB.out;obtain⟨b,o,F,fn,fc,rfl,hbb,ca,cf,hFl⟩:=hG.at_ hlt;have hmk:=vF seq l k hlt;have hfew:=(gP (OK.out _ (za hlt))).1;have hlnk:(mkD seq (l.take k)).length=k:=by rw[kD,zK];omega
  have hBx:zWW wr (wr.alloc (.cells #[.int .i64 l[k].1,.slice F fn fc] 46)):=(zw _ wr).alloc (zG _) _;have hx:=Blk.new wr 46 #[.int .i64 l[k].1,.slice F fn fc];have c2:=tG F fn fc l[k].2 _ (hFl.grow hBx).rd hFl.len (by have:=hFl.len;omega) hFl.nl;have hfl:Hid (l[k].2.length=fn):=zh hFl.len;have hf16:fn≤16:=by have:=hFl.len;omega
  generalize hev:l[k]=ev at *;clear hev hG hFl;obtain⟨ta,fs⟩:=ev;simp only at ca c2 hmk hfl hx hBx;have HX:=zh (And.intro hx hBx);have HMK:=zh hmk;have HLK:=zh hlnk;have C2:=zh c2;clear hx hBx hmk c2 hfew hlnk;go_wp2_with fail;generalize hw1:wr.alloc (.cells #[.int .i64 ta,.slice F fn fc] 46)=w1 at *;clear hw1 ca cf;refine C2.out.mono ?_;rintro e w3 ⟨v3,rfl,hown3,hb3⟩;obtain⟨A3,q3,rfl,hR3,hnq3,hnl3,hg3⟩:=aP hown3;have h7:=HX.out.1.below hb3 HX.out.1.lt;have h7s:=h7.set_ 1 (.slice A3 fs.length q3);have h7c:=h7.cell 1;have h7f:=h7.frozen 1;have h7s0:=h7s.cell 0;have h7s1:=h7s.cell 1;simp at h7c h7s0 h7s1;have hbt:=HBK.out.below (HX.out.2) HBK.out.lt |>.below hb3 (by have:=HBK.out.lt;have:=HX.out.2.size;omega)
  have t0:(w3.setCell ⟨wr.heap.size,1,none⟩ (.slice A3 fs.length q3)).cell? ⟨w.heap.size,0,none⟩=some (.int .i64 seq):=by
   have e:=hbt.cell 0;simp only[zA,zB]at e;have hlt:=HBK.out.lt;exact(vN (vL _ _ _ _ (by show w.heap.size≠wr.heap.size;omega))).trans e
  have hlw:wr.heap.size<w3.heap.size:=by have:=h7.lt;exact this
  have hown6:(((w3.setCell ⟨wr.heap.size,1,none⟩ (.slice A3 fs.length q3)).alloc (.cells #[.int .i64 (seq+(k:Int)),.int .i64 ta,.slice A3 fs.length q3] 48))).ownsRow w1.heap.size 85 2 (.slice A3 fs.length q3) fs.length (aO fs):=
   (hown3.kept (lZ w3 wr.heap.size 1 _) (.inr (fun e=>by have:=(hown3.lt _ e).1;have:=HX.out.1.lt;omega))).alloc _
  have hbS:zWW wr ((w3.setCell ⟨wr.heap.size,1,none⟩ (.slice A3 fs.length q3)).alloc (.cells #[.int .i64 (seq+(k:Int)),.int .i64 ta,.slice A3 fs.length q3] 48)):=((HX.out.2.trans (hb3.mono HX.out.2.size)).setCell (p:=⟨wr.heap.size,1,none⟩) (zG _) _).alloc (by have:=HX.out.2.size;have:=hb3.size;simp;omega) _;have hO6:=hO.out.below hbS;obtain⟨vss,g1,g2,g3⟩:=hO6.ex
  have hd6:DcS ((w3.setCell ⟨wr.heap.size,1,none⟩ (.slice A3 fs.length q3)).alloc (.cells #[.int .i64 (seq+(k:Int)),.int .i64 ta,.slice A3 fs.length q3] 48)) (Fd _ W0.heap.size) ⟨seq+(k:Int),ta,fs⟩ [.int .i64 (seq+(k:Int)),.int .i64 ta,.slice A3 fs.length q3]:=
   ⟨A3,_,q3,rfl,(ReadsS.of_own hown6).mono (fun b hb=>⟨by have:=hb.1;have:=hB.out.size;have:=HX.out.2.size;omega,aY hown6 hb.2.2⟩),rfl,by have:=hfl.out;omega,hnq3,hnl3⟩
  have Put:Hid (∀v' w5,w5.ownsRow W0.heap.size 48 3 v' (k+1) (vss.flatten ++ [.int .i64 (seq+(k:Int)),.int .i64 ta,.slice A3 fs.length q3])→_→DOwn w5 W0.heap.size v' (mkD seq (l.take (k+1)))):=zh (fun v' w5 p1 p2=>by
   rw[HMK.out]
   exact DOwn.put ⟨vss,g1,g2,g3,rfl⟩ (by rw[HLK.out];exact p1) p2 hd6)
  rw[HLK.out]at g2;have G2:=zh g2;have hzs:=hbS.size;have hBS:=zh hbS;have hw5:W0.heap.size≤wr.heap.size:=hB.out.size;have hsq:0≤seq+(k:Int):=jo;clear hown6 hbS hO6 g1 g2 g3 hd6 hown3 hR3 hnq3 hnl3 hg3 h7 h7s hbt C2 d0 d1;go_wp2_with (at_builtin;refine vH _ rfl _ _ 26 rfl W0.heap.size 48 i0 _ 3 40 underlying26 hi0 hz0 hz1 hz2 rfl jd _ _ _ rfl G2.out ⟨w3.heap.size,0,none⟩ 1 1 [.int .i64 (seq+(k:Int)),.int .i64 ta,.slice A3 fs.length q3] rfl rfl ?d1 ?d2 ?d3 ?d4 ?d5 ?_)
  case d1=>exact zy (cs:=#[.int .i64 (seq+(k:Int)),.int .i64 ta,.slice A3 fs.length q3]) (t:=48) (fr:=(0,0)) (by have:=vI (w3.setCell ⟨wr.heap.size,1,none⟩ (.slice A3 fs.length q3)) (.cells #[.int .i64 (seq+(k:Int)),.int .i64 ta,.slice A3 fs.length q3] 48);simpa using this)
  case d2=>simp[Value.oneCell']
  case d3=>unfold maxLen;omega
  case d4=>omega
  case d5=>first|omega|(simp;omega)
  intro v' w5 hown5 hg5 _;have Fin:=zh (Put.out v' w5 hown5 hg5);have hbF:Hid (zWW W0 w5):=zh ((hB.out.trans (hBS.out.mono hB.out.size)).grown hg5 jo (fun j hj=>(G2.out.lt j hj).1));clear hown5 hg5;go_wp2;go_roundw
  case rel=>exact⟨k+1,jo,ju,Fin,hbF⟩
  simp[intOf];omega
 obtain rfl:k=l.length:=jo;have hkz:¬(l.length:Int)<(n:Int):=jo;rw[List.take_length]at hO;go_wp2;go_ret;exact⟨_,rfl,hO.out.mono H0.out.2.2.size,hBw.out⟩
end Ev

namespace Md
open Go.RowKit Ut Tk Qy Qp Ev
structure Cf where
 size:Int
 age:Int
 retain:Int
 batch:Int
 buckets:Int
 bt:Bool
 bb:Bool
def Cf.v(c:Cf):Value:=.agg #[.int .i64 c.size,.int .i64 c.age,.int .i64 c.retain,.int .i64 c.batch,.int .i64 c.buckets,.bool c.bt,.bool c.bb]
def okC(c:Cf):Prop:=1≤c.size∧c.size≤262144∧1≤c.age∧0≤c.retain∧1≤c.batch∧c.batch≤64∧1≤c.buckets∧c.buckets≤10000
instance (c:Cf):Decidable (okC c):=by unfold okC;infer_instance
def I64(n:Int):Prop:=-9223372036854775808≤n∧n≤9223372036854775807
structure M where
 c:Cf
 ds:List Dc
 floor:Int
 now:Int
 acked:Int
def mdC(m:M)(v:Value):Array Value:=#[.int .i64 m.c.size,.int .i64 m.c.age,.int .i64 m.c.retain,.int .i64 m.c.batch,.int .i64 m.c.buckets,.bool m.c.bt,.bool m.c.bb,v,.int .i64 m.floor,.int .i64 m.now,.int .i64 m.acked,.bool true]
structure Ok (m:M):Prop where
 c:okC m.c
 ret:m.c.retain≤9223372036854775807
 doc:∀i (h:i<m.ds.length),aM m.ds[i].fs=0∧m.ds[i].seq=(i:Int)+1∧I64 m.ds[i].at_
 fl:I64 m.floor
 nw:I64 m.now
 ak:0≤m.acked∧m.acked≤(m.ds.length:Nat)
structure At (w:World) (n0 X K:Nat) (v:Value) (m:M):Prop where
 blk:Blk w X 81 (mdC m v)
 own:DOwn w n0 v m.ds
 n0:n0≤w.heap.size
 ok:Ok m
 few:m.ds.length≤K
theorem At.below{w w':World}{n0 X K:Nat}{v:Value}{m:M}(h:At w n0 X K v m)(hb:zWW w w'):At w' n0 X K v m:=⟨h.blk.below hb h.blk.lt,h.own.below hb,zY h.n0 hb.size,h.ok,h.few⟩
theorem At.more{w:World}{n0 X K K':Nat}{v:Value}{m:M}(h:At w n0 X K v m)(hK:K≤K'):At w n0 X K' v m:=⟨h.blk,h.own,h.n0,h.ok,zY h.few hK⟩
abbrev rsC(e seq fl:Int)(d b c:Value)(ev nx nw ak:Int):Array Value:=#[.int .i64 e,.int .i64 seq,.int .i64 fl,d,b,c,.int .i64 ev,.int .i64 nx,.int .i64 nw,.int .i64 ak]
abbrev nil:Value:=.slice none 0 0
abbrev bad(e:Int):Value:=.agg (rsC e 0 0 nil nil nil 0 0 0 0)
theorem dK(e:Int)(w:World):Calls prog 27 #[.int .i64 e] w fun r w'=>r=.returned (bad e)∧zWW w w':=by
 have hb:zWW w (w.alloc (.cells (rsC e 0 0 nil nil nil 0 0 0 0) 42)):=zRR _;have hh:=Blk.new w 42 (rsC e 0 0 nil nil nil 0 0 0 0);have H:=zh (And.intro hh hb);clear hh hb;go_enter func27,ntmps27;go_wp2_with fail;refine zu (aA rfl rfl (zr _ w.heap.size 42 42 (rsC e 0 0 nil nil nil 0 0 0 0) (0,0) _ H.out.1 underlying42 rfl jk)) rfl ⟨rfl,H.out.2⟩
def bz(n:Int):Bool:=decide (1≤n)&&decide (n≤10000)
theorem sF(n:Int)(w:World):Calls prog 66 #[.int .i64 n] w fun r w'=>r=.returned (.bool (bz n))∧w=w':=by
 have e:bz n=(decide (1≤n)&&decide (n≤10000)):=rfl;rw[e];clear e;by_cases h1:1≤n
 ·by_cases h2:n≤10000
  ·rw[zO h1,zO h2];go_enter func66,ntmps66;go_wp2;go_ret;exact⟨rfl,rfl⟩
  rw[zO h1,zN h2];go_enter func66,ntmps66;go_wp2;go_ret;exact⟨rfl,rfl⟩
 rw[zN h1];go_enter func66,ntmps66;go_wp2;go_ret;exact⟨rfl,rfl⟩
theorem vG{w:World}{X:Nat}{m:M}{v:Value}(h:Blk w X 81 (mdC m v)):Calls prog 26 #[.pointer (some ⟨X,0,none⟩)] w fun e w'=>e=.returned (.bool false)∧w=w':=by
 have h11:=h.cell 11;simp only[mdC,zA,zB,zC]at h11;clear h;go_enter func26,ntmps26;go_wp2;go_ret;exact⟨rfl,rfl⟩
theorem cT{w w':World}{base k n:Nat}{T:TypeId}{v:Value}{xs:List Value}(h:w.ownsRow base T k v n xs)(hk:∀b,v.ownBlock=some b→w'.heap[b]?=w.heap[b]?):w'.ownsRow base T k v n xs:=
 ⟨h.1,h.2.elim .inl (fun⟨g,cap,cur,hv,hg,hh,r⟩=>.inr ⟨g,cap,cur,hv,hg,(hk g (by rw[hv];rfl)).trans hh,r⟩)⟩
theorem qh{w:World}{T:TypeId}{b:Nat}{cs:Array Value}(h:Blk w b T cs):Tg w T b:=⟨_,_,h⟩
def Ht(w:World)(d:Dc)(e:Ending)(w':World):Prop:=∃A c,e=.returned (.agg #[.int .i64 d.seq,.int .i64 d.at_,.slice A d.fs.length c])∧d.fs.length≤c∧(A=none→c=0)∧w'.ownsRow w.heap.size 85 2 (.slice A d.fs.length c) d.fs.length (aO d.fs)∧zWW w w'
theorem tH(d:Dc)(Fa:Option Addr)(fn fc:Nat)(w:World)(hF:Reads w w.heap.size 2 Fa fn (aO d.fs))(hl:d.fs.length=fn)(hn:fn≤1048576)(hnil:Fa=none→fc=0) :
  Calls prog 57 #[.agg #[.int .i64 d.seq,.int .i64 d.at_,.slice Fa fn fc]] w (Ht w d):=by
 subst hl;obtain⟨i0,hi0,hz0,hz1,hz2⟩:=info_parts Ev.fR;have hB1:zWW w ((w.alloc (.cells #[.int .i64 d.seq,.int .i64 d.at_,.slice Fa d.fs.length fc] 48)).alloc (.cells #[.int .i64 0,.int .i64 0,.slice none 0 0] 48)):=(zRR _).alloc jz _;have hX:=(Blk.new w 48 #[.int .i64 d.seq,.int .i64 d.at_,.slice Fa d.fs.length fc]).alloc (.cells #[.int .i64 0,.int .i64 0,.slice none 0 0] 48);have hR:=Blk.new (w.alloc (.cells #[.int .i64 d.seq,.int .i64 d.at_,.slice Fa d.fs.length fc] 48)) 48 #[.int .i64 0,.int .i64 0,.slice none 0 0];rw[vK]at hR;have c1:=tG Fa d.fs.length fc d.fs _ ((hF.below hB1).more hB1.size) rfl hn hnil;have C1:=zh c1;have H:=zh (And.intro hX (And.intro hR hB1));have x2:=hX.cell 2;simp only[zA,zB,zC]at x2;clear c1 hX hR hB1;go_enter func57,ntmps57;go_wp2_with fail;refine C1.out.mono ?_;rintro e w3 ⟨v3,rfl,hown,hb⟩;obtain⟨A3,q3,rfl,hR3,hnq3,hnl3,hg3⟩:=Ev.aP hown;have hX3:=H.out.1.below hb H.out.1.lt;have hR3':=H.out.2.1.below hb H.out.2.1.lt;have y0:=hX3.cell 0;have y1:=hX3.cell 1;have y2:=hX3.cell 2;have y2f:=hX3.frozen 2;have z0:=hR3'.cell 0;simp only[zA,zB,zC]at y0 y1 y2 z0;clear x2;go_upto_region 2 with fail;have hX4:=hX3.set_ 2 (.slice A3 d.fs.length q3);have hR4:Blk (w3.setCell ⟨w.heap.size,2,none⟩ (.slice A3 d.fs.length q3)) (w.heap.size+1) 48 #[.int .i64 0,.int .i64 0,.slice none 0 0]:=hR3'.far (by show w.heap.size+1≠w.heap.size;omega) _;have hown4:(w3.setCell ⟨w.heap.size,2,none⟩ (.slice A3 d.fs.length q3)).ownsRow w.heap.size 85 2 (.slice A3 d.fs.length q3) d.fs.length (aO d.fs):=iD (hown.kept (Ev.lZ w3 w.heap.size 2 _) (.inr (fun e=>by have:=(hown.lt _ e).1;have:=H.out.1.lt;omega))) H.out.2.2.size;have hb4:zWW w (w3.setCell ⟨w.heap.size,2,none⟩ (.slice A3 d.fs.length q3)):=(H.out.2.2.trans (hb.mono H.out.2.2.size)).setCell (p:=⟨w.heap.size,2,none⟩) (zG _) _;generalize (w3.setCell ⟨w.heap.size,2,none⟩ (.slice A3 d.fs.length q3))=w4 at *;clear y0 y1 y2 y2f z0;have y0:=hX4.cell 0;have y1:=hX4.cell 1;have y2:=hX4.cell 2;have z0:=hR4.cell 0;have z1:=hR4.cell 1;have z2:=hR4.cell 2;have z0f:=hR4.frozen 0;have z1f:=hR4.frozen 1;have z2f:=hR4.frozen 2;simp at y0 y1 y2 z0 z1 z2;have HR4:=zh hR4;have HO4:=zh hown4;have HB4:=zh hb4;clear hX4 hR4 hown4 hb4 hX3 hR3' hown hb hR3 hg3 C1 H hF;go_wp2_with fail
 have hh:Blk (((w4.setCell ⟨w.heap.size+1,0,none⟩ (.int .i64 d.seq)).setCell ⟨w.heap.size+1,1,none⟩ (.int .i64 d.at_)).setCell ⟨w.heap.size+1,2,none⟩ (.slice A3 d.fs.length q3)) (w.heap.size+1) 48 #[.int .i64 d.seq,.int .i64 d.at_,.slice A3 d.fs.length q3]:=by
  have:=((HR4.out.set_ 0 (.int .i64 d.seq)).set_ 1 (.int .i64 d.at_)).set_ 2 (.slice A3 d.fs.length q3)
  simpa using this
 refine zu (aA rfl rfl (zr _ (w.heap.size+1) 48 48 #[.int .i64 d.seq,.int .i64 d.at_,.slice A3 d.fs.length q3] (0,0) _ hh underlying48 rfl jk)) rfl ⟨A3,q3,rfl,hnq3,hnl3,cT HO4.out (fun b hb=>?_),((HB4.out.setCell (p:=⟨w.heap.size+1,0,none⟩) (zZ _) _).setCell (p:=⟨w.heap.size+1,1,none⟩) (zZ _) _).setCell (p:=⟨w.heap.size+1,2,none⟩) (zZ _) _⟩
 have hne:b≠w.heap.size+1:=fun e=>by
  subst e;exact absurd ((aY HO4.out hb).one (qh HR4.out)) jd
 exact((vL _ ⟨w.heap.size+1,2,none⟩ _ b hne).trans (vL _ ⟨w.heap.size+1,1,none⟩ _ b hne)).trans (vL _ ⟨w.heap.size+1,0,none⟩ _ b hne)
end Md

namespace Ss
open Go.Shelf Go.RowKit Go.Lib Go.Sort
variable {α:Type} [Inhabited α] {enc:α→List Value} {cf:α→α→Int} {tag:α→Nat}
set_option maxRecDepth 1000000 in
theorem Bm(hW:SWO (ltOf cf))(k:Nat)(hk2:k=3)(g:Nat)(cb:Array Value)(blk off cap:Nat)(d:Array α)(w0 w:World)(eg:∀args w,(callFunc g args).run prog w=.ok (.enter g args) w)(hC:CmpLays prog g cb enc k cf blk off d.size w0)
  (R:RowK enc k w0 blk off d) (S:SWK enc k w0 blk off d w) (hsz:d.size<1099511627776) (hT:∀x y,x<y→y<d.size→tag d[x]!<tag d[y]!) :
  Calls prog 129 #[.slice (some ⟨blk,off,none⟩) d.size cap,.int .i64 d.size,.func (.func g) #[] cb] w (iM enc cf tag k w0 blk off d 0 d.size):=by
 have S0:Aside (SWK enc k w0 blk off d w):=S;have HC:Aside _:=hC;have HK:=zh hk2;have HPI:Hid (Pi cf tag d d 20 d.size 0):=zh (Pi.start (zG _) hT);obtain⟨n,hn⟩:∃n,d.size=n:=⟨_,rfl⟩;have N1:n≤d.size:=jo;have N2:d.size≤n:=jo;have HN:=zh hn;rw[hn];rw[hn]at HPI;have ins:=fun(a b:Nat) (dk:Array α) (w:World) (hs:dk.size=d.size) (S:SWK enc k w0 blk off dk w) (hab:a≤b) (hb:b≤dk.size) (hT:∀x y,a≤x→x<y→y<b→tag dk[x]!<tag dk[y]!)=>AL hW k hk2 g cb blk off cap a b d dk w0 w eg hC R hs S hab hb jo hT
 have sym:=fun(a m b:Nat) (dk:Array α) (w:World) (h1:a<m) (h2:m<b) (I:MIn enc cf tag k w0 blk off d dk a m b w)=>Hv hW k hk2 g cb blk off cap d w0 eg hC R hsz (b-a) a m b dk w (zG _) h1 h2 I
 have INS:=zh ins;have SYM:=zh sym;clear S hk2 hC hT ins sym hn;go_enter func129,ntmps129;go_wp2;go_loopw [7,8] (fun v7 v8 wr=>∃(c a b:Nat) (dk:Array α),a≤n∧b≤a+20∧a+20≤b∧v7=.int .i64 (a:Nat)∧v8=.int .i64 (b:Nat)∧Hid (a=c*20)∧Aside (SWK enc k w0 blk off dk wr)∧Hid (Pi cf tag d dk 20 n c)) (fun _ v8 _=>n+20-(intOf v8).toNat)
 case atStart=>exact⟨0,0,20,d,jo,jo,jo,rfl,rfl,zh jo,S0,HPI⟩
 clear S0 HPI;obtain⟨c,a,b,dk,ha,hb1,hb2,rfl,rfl,HA,S1,HP⟩:=hrel;have hdk:Hid (dk.size=d.size):=zh HP.out.hs;by_cases hlt:b≤n
 ·have c1:=INS.out a b dk wr hdk.out S1.out jo (by have:=hdk.out;omega) (fun x y h1 h2 h3=>HP.out.tags HA.out h1 h2 jo);rw[hdk.out,HN.out]at c1;have C1:=zh c1;clear c1 S1;go_wp2_with fail;refine C1.out.mono ?_;rintro ev w2 ⟨rfl,d',S2,h1,h2,h3⟩;have S3:Aside (SWK enc k w0 blk off d' w2):=S2
  have P3:Hid (Pi cf tag d d' 20 n (c+1)):=zh (by
   obtain rfl:b=a+20:=jo
   exact HP.out.next HA.out hlt h2 h3)
  clear C1 S2 h1 h2 h3 HP hdk;go_wp2;go_roundw
  case rel=>exact⟨c+1,b,b+20,d',jo,jo,jo,rfl,ju,zh (by have:=HA.out;omega),S3,P3⟩
  simp[intOf];omega
 have hbn:¬(b:Int)≤(n:Int):=jo;have c1:=INS.out a n dk wr hdk.out S1.out jo (by have:=hdk.out;omega) (fun x y h1 h2 h3=>HP.out.tags HA.out h1 h2 jo);rw[hdk.out,HN.out]at c1;have C1:=zh c1;clear c1 S1;go_wp2_with fail;refine C1.out.mono ?_;rintro ev w2 ⟨rfl,d',S2,h1,h2,h3⟩;have S3:Aside (SWK enc k w0 blk off d' w2):=S2;have P3:Hid (d'.size=d.size∧PermIn 0 n d d'∧Tgb tag d' 20 n∧Sb cf tag d' 20 n):=zh (HP.out.last HA.out jo ha h2 h3);clear C1 S2 h1 h2 h3 HP hdk HA;go_wp2;go_loopw [6] (fun v6 wr=>∃(B:Nat) (dB:Array α),0<B∧B≤2*n+20∧v6=.int .i64 (B:Nat)∧Aside (SWK enc k w0 blk off dB wr)∧Hid (dB.size=d.size∧PermIn 0 n d dB∧Tgb tag dB B n∧Sb cf tag dB B n)) (fun v6 _=>n-(intOf v6).toNat)
 case atStart=>exact⟨20,d',jo,jo,rfl,S3,P3⟩
 clear S3 P3;obtain⟨B,dB,hB0,hB,rfl,S1,HB⟩:=hrel;by_cases hBn:B<n
 ·have HP0:Hid (Ph cf tag d dB dB B n 0):=zh (Ph.start HB.out.1 jo HB.out.2.1 HB.out.2.2.1 HB.out.2.2.2);clear HB;go_wp2;go_loopw [7,8] (fun v7 v8 wr=>∃(c a b:Nat) (dk:Array α),a≤n∧b≤a+2*B∧a+2*B≤b∧v7=.int .i64 (a:Nat)∧v8=.int .i64 (b:Nat)∧Hid (a=c*(2*B))∧Aside (SWK enc k w0 blk off dk wr)∧Hid (Ph cf tag d dB dk B n c)) (fun _ v8 _=>n+2*B-(intOf v8).toNat)
  case atStart=>exact⟨0,0,2*B,dB,jo,jo,jo,rfl,ju,zh jo,S1,HP0⟩
  clear S1 HP0;obtain⟨c,a,b,dk,ha,hb1,hb2,rfl,rfl,HA,S1,HP⟩:=hrel;have hdk:Hid (dk.size=d.size):=zh HP.out.hs;obtain⟨m,hm⟩:∃m,m=a+B:=⟨_,rfl⟩;have m1:m≤a+B:=jo;have m2:a+B≤m:=jo;have hmz:(a:Int)+(B:Int)=(m:Int):=jo;by_cases hlt:b≤n
  ·have W:=HP.out.wants (a:=a) (b:=b) HA.out jo jo;rw[←hm]at W;have c1:=SYM.out a m b dk wr jo jo ⟨hdk.out,S1.out,by have:=hdk.out;omega,W.1,W.2.1,W.2.2⟩;rw[hdk.out,HN.out]at c1;have C1:=zh c1;clear c1 S1 W;have HM:=zh hm;clear hm;go_wp2_with fail;refine C1.out.mono ?_;rintro ev w2 ⟨rfl,d',S2,h1,h2,h3⟩;have S3:Aside (SWK enc k w0 blk off d' w2):=S2
   have P3:Hid (Ph cf tag d dB d' B n (c+1)):=zh (by
    obtain rfl:b=a+2*B:=jo
    exact HP.out.next HA.out hlt h2 h3)
   clear C1 S2 h1 h2 h3 HP hdk hmz;go_wp2;go_roundw
   case rel=>exact⟨c+1,b,b+2*B,d',jo,jo,jo,rfl,ju,zh (by rw[gh,←HA.out];omega),S3,P3⟩
   simp[intOf];omega
  have hbn:¬(b:Int)≤(n:Int):=jo;by_cases hmn:m<n
  ·have W:=HP.out.wants (a:=a) (b:=n) HA.out jo jo;rw[←hm]at W;have c1:=SYM.out a m n dk wr jo jo ⟨hdk.out,S1.out,by have:=hdk.out;omega,W.1,W.2.1,W.2.2⟩;rw[hdk.out,HN.out]at c1;have C1:=zh c1;clear c1 S1 W;have HM:=zh hm;clear hm;go_wp2_with fail;refine C1.out.mono ?_;rintro ev w2 ⟨rfl,d',S2,h1,h2,h3⟩;have S3:Aside (SWK enc k w0 blk off d' w2):=S2;have P3:Hid (d'.size=d.size∧PermIn 0 n d d'∧Tgb tag d' (2*B) n∧Sb cf tag d' (2*B) n):=zh (HP.out.last HA.out jo jo h2 h3);clear C1 S2 h1 h2 h3 HP hdk hmz;go_wp2;go_roundw
   case rel=>exact⟨2*B,d',jo,jo,ju,S3,P3⟩
   simp[intOf];omega
  have hmn':¬(m:Int)<(n:Int):=jo;have P3:Hid (dk.size=d.size∧PermIn 0 n d dk∧Tgb tag dk (2*B) n∧Sb cf tag dk (2*B) n):=zh (HP.out.done HA.out jo);have HM:=zh hm;clear HP hdk hm;go_wp2;go_roundw
  case rel=>exact⟨2*B,dk,jo,jo,ju,S1,P3⟩
  simp[intOf];omega
 have hBn':¬(B:Int)<(n:Int):=jo;have Fin:Hid (dB.size=d.size∧PermIn 0 n d dB∧Srt cf tag dB 0 n):=zh ⟨HB.out.1,HB.out.2.1,HB.out.2.2.2.whole jo⟩;clear HB;go_wp2
 go_end0
 exact⟨rfl,dB,S1.out,Fin.out⟩
set_option maxRecDepth 1000000 in
theorem AJ(hW:SWO (ltOf cf))(k:Nat)(hk2:k=3)(g:Nat)(cb:Array Value)(blk off cap:Nat)(d:Array α)(w:World)(eg:∀args w,(callFunc g args).run prog w=.ok (.enter g args) w)(hC:CmpLays prog g cb enc k cf blk off d.size w)
  (R:RowK enc k w blk off d) (S:SWK enc k w blk off d w) (hsz:d.size<1099511627776) (hT:∀x y,x<y→y<d.size→tag d[x]!<tag d[y]!) :
  Calls prog 102 #[.slice (some ⟨blk,off,none⟩) d.size cap,.func (.func g) #[] cb] w (iM enc cf tag k w blk off d 0 d.size):=by
 have C:=zh (Bm hW k hk2 g cb blk off cap d w w eg hC R S hsz hT);clear hW hk2 hC S hT R eg;go_enter func102,ntmps102;go_wp2_with fail;refine C.out.mono ?_;rintro ev w2 ⟨rfl,H⟩;have F:=zh H;clear H C;go_wp2
 go_end0
 exact⟨rfl,F.out⟩
end Ss

namespace Qy
open Go.RowKit Ut Tk
theorem KO(F:Option Addr)(fn fc:Nat)(fs:List (ByteArray × ByteArray))(qb ab g:Nat)(k:Int)(nm:ByteArray)(ws:List ByteArray)(W:World)(hF:Reads W W.heap.size 2 F fn (aO fs))(hn:fs.length=fn)(hn2:fn≤8796093021952)(hs:∀f∈fs,f.2.size≤1048576)
  (hq:QBox W qb nm ws) (hab:W.cell? ⟨ab,0,none⟩=some (.func (.func g) #[] #[.pointer (some ⟨qb,0,none⟩)])) (hcf:∀args wx,(callFunc g args).run prog wx=.ok (.enter g args) wx)
  (hg:∀T TA tc wx,T.length≤1048576→Reads wx wx.heap.size 2 TA T.length (cG (bR T))→zWW W wx→Calls prog g #[.slice TA T.length tc,.pointer (some ⟨qb,0,none⟩)] wx fun e w'=>e=.returned (.bool (bH k ws T))∧zWW wx w') :
  Calls prog 140 #[.slice F fn fc,.func (.func 141) #[] #[.pointer (some ⟨qb,0,none⟩),.pointer (some ⟨ab,0,none⟩)]] W fun e w'=>e=.returned (.bool (eY k nm ws fs))∧zWW W w':=by
 have c1:=Ay F fn fc fs 141 #[.pointer (some ⟨qb,0,none⟩),.pointer (some ⟨ab,0,none⟩)] (fun i=>(fs[i]?).any (fun f=>f.1.data.toList==nm.data.toList&&bH k ws (words f.2.data.toList))) W
  (fun args wx=>iQ func141 jk rfl args wx) hF hn hn2 (fun i h wx hbx=>by
   have hsz:=hs _ (za h);have hwl:=iW fs[i].2;have hla:=World.block_lt_of_cell? W _ hab
   have c:=Dj fs[i].1 fs[i].2 qb ab g nm ws (bH k ws (words fs[i].2.data.toList)) wx hsz (hq.grow hbx) ((hbx.cell (p:=⟨ab,0,none⟩) hla).trans hab) hcf
    (fun TA tc wy hR hby=>hg _ TA tc wy jo hR (hbx.trans (hby.mono hbx.size)))
   rw[tl,tl]at c;rw[zU h]
   simpa using c)
 have e:=mV fs (fun f=>f.1.data.toList==nm.data.toList&&bH k ws (words f.2.data.toList));rw[hn]at e;rw[e]at c1;exact c1
theorem FP{w:World}{k:Int}{nm:ByteArray}{ws:List ByteArray}{WA C:Option Addr}{m wc c1 c2:Nat}(hW:Reads w w.heap.size 1 WA m (ws.map Value.string))(hm:ws.length=m)(hm2:m≤8796093021952) :
  QBox (w.alloc (.cells #[.int .i64 k,.string nm,.slice WA m wc,.slice C c1 c2] 60)) w.heap.size nm ws:=by
 have hB:=Blk.new w 60 #[.int .i64 k,.string nm,.slice WA m wc,.slice C c1 c2];exact⟨hB.cell 1,WA,m,wc,hB.cell 2,bD (zRR _) hW,hm,hm2⟩
theorem FQ(k:Int)(nm:ByteArray)(ws:List ByteArray)(WA CA:Option Addr)(m wc c1 c2:Nat)(t:Int)(F:Option Addr)(fn fc:Nat)(fs:List (ByteArray × ByteArray))(w:World)(hk:k=2∨k=3∨k=4)
  (hW:Reads w w.heap.size 1 WA m (ws.map Value.string)) (hm:ws.length=m) (hm2:m≤8796093021952) (hF:Reads w w.heap.size 2 F fn (aO fs)) (hn:fs.length=fn) (hn2:fn≤8796093021952) (hs:∀f∈fs,f.2.size≤1048576) :
  Calls prog 113 #[.agg #[.int .i64 k,.string nm,.slice WA m wc,.slice CA c1 c2],.agg #[.int .i64 t,.slice F fn fc]] w fun e w'=>e=.returned (.bool (eY k nm ws fs))∧zWW w w':=by
 have hb2:zWW w (w.alloc (.cells #[.int .i64 k,.string nm,.slice WA m wc,.slice CA c1 c2] 60)):=zRR _;have q2:=FP (k:=k) (nm:=nm) (wc:=wc) (C:=CA) (c1:=c1) (c2:=c2) hW hm hm2;have hb23:Below (w.alloc (.cells #[.int .i64 k,.string nm,.slice WA m wc,.slice CA c1 c2] 60)).heap.size (w.alloc (.cells #[.int .i64 k,.string nm,.slice WA m wc,.slice CA c1 c2] 60)) ((w.alloc (.cells #[.int .i64 k,.string nm,.slice WA m wc,.slice CA c1 c2] 60)).alloc (.cells #[.int .i64 t,.slice F fn fc] 46)):=zRR _;have q3:=q2.grow hb23;have hb3:=hb2.trans (hb23.mono hb2.size);have hF3:=bD hb3 hF;have hz:((w.alloc (.cells #[.int .i64 k,.string nm,.slice WA m wc,.slice CA c1 c2] 60)).alloc (.cells #[.int .i64 t,.slice F fn fc] 46)).heap.size=w.heap.size+1+1:=jz
 have hC:∀g,(∀args wx,(callFunc g args).run prog wx=.ok (.enter g args) wx)→(∀W T TA tc wx,QBox W w.heap.size nm ws→T.length≤1048576→Reads wx wx.heap.size 2 TA T.length (cG (bR T))→zWW W wx→Calls prog g #[.slice TA T.length tc,.pointer (some ⟨w.heap.size,0,none⟩)] wx fun e w'=>e=.returned (.bool (bH k ws T))∧zWW wx w') →
   Calls prog 140 #[.slice F fn fc,.func (.func 141) #[] #[.pointer (some ⟨w.heap.size,0,none⟩),.pointer (some ⟨w.heap.size+1+1,0,none⟩)]]
    (((w.alloc (.cells #[.int .i64 k,.string nm,.slice WA m wc,.slice CA c1 c2] 60)).alloc (.cells #[.int .i64 t,.slice F fn fc] 46)).alloc (.cells #[.func (.func g) #[] #[.pointer (some ⟨w.heap.size,0,none⟩)]] 191))
    fun e w'=>e=.returned (.bool (eY k nm ws fs))∧zWW w w':=fun g hcf hg=>by
  have hb35:Below ((w.alloc (.cells #[.int .i64 k,.string nm,.slice WA m wc,.slice CA c1 c2] 60)).alloc (.cells #[.int .i64 t,.slice F fn fc] 46)).heap.size ((w.alloc (.cells #[.int .i64 k,.string nm,.slice WA m wc,.slice CA c1 c2] 60)).alloc (.cells #[.int .i64 t,.slice F fn fc] 46))
   (((w.alloc (.cells #[.int .i64 k,.string nm,.slice WA m wc,.slice CA c1 c2] 60)).alloc (.cells #[.int .i64 t,.slice F fn fc] 46)).alloc (.cells #[.func (.func g) #[] #[.pointer (some ⟨w.heap.size,0,none⟩)]] 191)):=zRR _
  have q5:=q3.grow hb35;have hB5:=Blk.new ((w.alloc (.cells #[.int .i64 k,.string nm,.slice WA m wc,.slice CA c1 c2] 60)).alloc (.cells #[.int .i64 t,.slice F fn fc] 46)) 191 #[.func (.func g) #[] #[.pointer (some ⟨w.heap.size,0,none⟩)]];rw[hz]at hB5;have hb5:=hb3.trans (hb35.mono hb3.size);refine(KO F fn fc fs w.heap.size (w.heap.size+1+1) g k nm ws _ (bD hb35 hF3) hn hn2 hs q5 (hB5.cell 0) hcf (fun T TA tc wx h1 h2 h3=>hg _ T TA tc wx q5 h1 h2 h3)).mono ?_;rintro e w' ⟨rfl,hb⟩;exact⟨rfl,hb5.trans (hb.mono hb5.size)⟩
 have hb5':∀g,zWW w (((w.alloc (.cells #[.int .i64 k,.string nm,.slice WA m wc,.slice CA c1 c2] 60)).alloc (.cells #[.int .i64 t,.slice F fn fc] 46)).alloc (.cells #[.func (.func g) #[] #[.pointer (some ⟨w.heap.size,0,none⟩)]] 191)):=fun g=>hb3.alloc hb3.size _
 have HC:=zh hC;have Hb5:=zh hb5';have Hm:=zh hm;clear hW hF hn hs hb2 q2 hb23 q3 hb3 hF3 hz hC hb5' hm;rcases hk with rfl|rfl|rfl
 ·by_cases h1:m=1
  ·have h1':((m:Int) != 1)=false:=by rw[bne_eq_false_iff_eq];omega
   have C:=zh (HC.out 136 (fun args wx=>iQ func136 jk rfl args wx) (fun W T TA tc wx hq h1' h2 h3=>by
    have c:=uP TA T.length tc T w.heap.size nm ws wx h2 rfl h1' (hq.grow h3);have e:bH 2 ws T=decide (0<(phr T ws).length):=by unfold bH;simp[Hm.out,h1]
    rw[e];exact c))
   clear h1;go_enter func113,ntmps113;go_wp2_with (go_at_call 140;refine C.out.mono ?_;rintro e w1 ⟨rfl,hb1⟩);go_ret;exact⟨rfl,hb1⟩
  have h1':((m:Int) != 1)=true:=by rw[bne_iff_ne];omega
  have e:eY 2 nm ws fs=false:=by
   have:∀T,bH 2 ws T=false:=fun T=>by unfold bH;simp[Hm.out,h1]
   unfold eY;simp[this]
  have Fin:=zh e;clear e h1;go_enter func113,ntmps113;go_wp2;go_ret;exact⟨by rw[Fin.out];rfl,Hb5.out _⟩
 ·by_cases h1:m=1
  ·have h1':((m:Int) != 1)=false:=by rw[bne_eq_false_iff_eq];omega
   obtain⟨p,rfl⟩:∃p,ws=[p]:=List.length_eq_one_iff.1 (by rw[Hm.out,h1])
   have C:=zh (HC.out 138 (fun args wx=>iQ func138 jk rfl args wx) (fun W T TA tc wx hq h1' h2 h3=>by
    have c:=Di TA T.length tc T w.heap.size nm p wx h2 rfl h1' (hq.grow h3);have e:bH 3 [p] T=T.any (bS · p):=by unfold bH;simp
    rw[e];exact c))
   clear h1;go_enter func113,ntmps113;go_wp2_with (go_at_call 140;refine C.out.mono ?_;rintro e w1 ⟨rfl,hb1⟩);go_ret;exact⟨rfl,hb1⟩
  have h1':((m:Int) != 1)=true:=by rw[bne_iff_ne];omega
  have e:eY 3 nm ws fs=false:=by
   have:∀T,bH 3 ws T=false:=fun T=>by
    unfold bH;simp only[if_true]
    split
    ·rename_i p;exact absurd Hm.out jm
    rfl
   unfold eY;simp[this]
  have Fin:=zh e;clear e h1;go_enter func113,ntmps113;go_wp2;go_ret;exact⟨by rw[Fin.out];rfl,Hb5.out _⟩
 have C:=zh (HC.out 136 (fun args wx=>iQ func136 jk rfl args wx) (fun W T TA tc wx hq h1' h2 h3=>by
  have c:=uP TA T.length tc T w.heap.size nm ws wx h2 rfl h1' (hq.grow h3);have e:bH 4 ws T=decide (0<(phr T ws).length):=by unfold bH;simp
  rw[e];exact c))
 go_enter func113,ntmps113;go_wp2_with (go_at_call 140;refine C.out.mono ?_;rintro e w1 ⟨rfl,hb1⟩);go_ret;exact⟨rfl,hb1⟩
end Qy
end Go.Proofs.YtmomjpolkkbhnaaGreat
