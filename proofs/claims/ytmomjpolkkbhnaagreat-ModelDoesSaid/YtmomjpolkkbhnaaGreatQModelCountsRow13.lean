/- event.Size, loggiaref10.Check, Size: the walks. -/
import Derived.Test.YtmomjpolkkbhnaaGreatQModelCountsRow12
set_option linter.unusedSimpArgs false
set_option linter.unusedVariables false
set_option maxRecDepth 20000
set_option maxHeartbeats 100000000
open Go.Proofs.Tryz
namespace Go.Proofs.YtmomjpolkkbhnaaGreat
namespace Ev
open Go.RowKit Ut Tk Qy
theorem FA{B:Nat}(w:World)(n:Nat):Below B w (w.drewN n):=⟨rfl,rfl,rfl,zG _,fun _ _=>rfl⟩
theorem xx(fs:List Fl)(k:Nat)(h:k<fs.length):szF (fs.take (k+1))=szF (fs.take k)+(fs[k].1.size+fs[k].2.size):=by
 rw[zL h,Ej]
theorem FB(t:Int)(F:Option Addr)(fn fc:Nat)(fs:List Fl)(w:World)(h:FlAt w w.heap.size F fn fc fs)(hok:aM fs=0) :
  Calls prog 94 #[.agg #[.int .i64 t,.slice F fn fc]] w fun e w'=>e=.returned (.int .i64 (szE fs))∧zWW w w':=by
 have hl:=h.len;have hl1:fs.length≤fn:=jo;have hl2:fn≤fs.length:=jo;have hcap:=h.cap;have hsz:=lL hok;have Fin:Hid ((szE fs:Int)=((16+szF (fs.take fs.length):Nat):Int)):=zh (by rw[List.take_length];rfl);unfold szE at hsz;have HZ:=fun k=>uw fs k
 have hfew:fn≤16:=by have:=(gP hok).1;omega
 have H:=zh h;have HZ:=zh HZ;have hB1:Hid (zWW w (w.alloc (.cells #[.int .i64 t,.slice F fn fc] 46))):=zh (zRR _);clear hl h hok;generalize szE fs=r at *;go_enter func94,ntmps94;go_wp2;go_loopw [3,9] (fun n i wr=>∃k:Nat,k≤fs.length∧i=.int .i64 (k:Nat)∧n=.int .i64 ((16+szF (fs.take k):Nat):Int)∧Hid (zWW w wr)) (fun _ i _=>fs.length-(intOf i).toNat)
 case atStart=>exact⟨0,zS _,rfl,rfl,hB1⟩
 clear hB1;obtain⟨k,hk,rfl,rfl,hB⟩:=hrel;by_cases hlt:k<fs.length
 ·have hkz:(k:Int)<(fn:Int):=jo;obtain⟨b,o,rfl,hbb,cn,ct⟩:=(H.out.keep (w':=wr) (fun b o hp=>hB.out.cell (p:=⟨b,o,none⟩) hp)).at_ hlt;have hat:=xx fs k hlt;have hz1:=HZ.out (k+1);rw[hat]at hz1;have HAT:Hid (szF (fs.take (k+1))=szF (fs.take k)+(fs[k].1.size+fs[k].2.size)):=zh hat;clear hat;generalize hfk:fs[k]=f at *;clear hfk;obtain⟨nm,tx⟩:=f;simp only at cn ct hz1 HAT;generalize hzk:szF (fs.take k)=zk at *;have hB2:Hid (zWW w (wr.alloc (.cells #[.string nm,.string tx] 85))):=zh (hB.out.alloc hB.out.size _);clear hzk;go_wp2;go_roundw
  case rel=>exact⟨k+1,jo,ju,by rw[HAT.out];go_num,hB2⟩
  simp[intOf];omega
 have hkz:¬(k:Int)<(fn:Int):=jo;have e:k=fs.length:=jo;have Fin2:Hid ((r:Int)=((16+szF (fs.take k):Nat):Int)):=zh (by rw[e];exact Fin.out);clear Fin e;go_wp2;go_ret;exact⟨by rw[Fin2.out];rfl,hB.out⟩
theorem Bi(t:Int)(F:Option Addr)(fn fc:Nat)(fs:List Fl)(w:World)(h:FlAt w w.heap.size F fn fc fs) :
  Calls prog 145 #[.agg #[.int .i64 t,.slice F fn fc]] w fun e w'=>e=.returned (.int .i64 (aM fs))∧zWW w w':=by
 have hl:=h.len;have hl1:fs.length≤fn:=jo;have hl2:fn≤fs.length:=jo;have hcap:=h.cap;have hfew:=h.few;have Fin:Hid (aM fs=if 16<fs.length then 3 else eQ fs):=rfl;have hB1:zWW w (w.alloc (.cells #[.int .i64 t,.slice F fn fc] 46)):=zRR _;have hF1:=h.grow hB1;have hX:=(Blk.new w 46 #[.int .i64 t,.slice F fn fc]);have H:=zh (And.intro hF1 (And.intro hX hB1));clear hl h hF1 hX hB1;generalize aM fs=r at *;by_cases hbig:16<fs.length
 ·have hb16:(16:Int)<(fn:Int):=jo;go_enter func145,ntmps145;go_wp2;go_ret;exact⟨by rw[Fin.out,zI hbig];rfl,H.out.2.2⟩
 have hb16:¬(16:Int)<(fn:Int):=jo;have Fin2:Hid (r=eQ (fs.drop 0)):=zh (by rw[Fin.out,zH hbig,List.drop_zero]);clear Fin hbig;go_enter func145,ntmps145;go_wp2;generalize w.alloc (.cells #[.int .i64 t,.slice F fn fc] 46)=W0 at *;go_loopw [3] (fun i wr=>∃k:Nat,k≤fs.length∧i=.int .i64 (k:Nat)∧Hid (r=eQ (fs.drop k))∧Hid (zWW W0 wr)) (fun i _=>fs.length-(intOf i).toNat)
 case atStart=>exact⟨0,zS _,rfl,Fin2,zh (zw _ _)⟩
 clear Fin2;obtain⟨k,hk,rfl,hR,hB⟩:=hrel;have d1:=(H.out.2.1.below hB.out H.out.2.1.lt).cell 1;simp only[zA,zB,zC]at d1;have hBw:Hid (zWW w wr):=zh (H.out.2.2.trans (hB.out.mono H.out.2.2.size));by_cases hlt:k<fs.length
 ·have hkz:(k:Int)<(fn:Int):=jo;obtain⟨b,o,rfl,hbb,cn,ct⟩:=(H.out.1.grow hB.out).at_ hlt;have hsz:=H.out.1.sz _ (za hlt);have hR2:Hid (r=if isN fs[k].1.data.toList=false then 100 else if 4096<fs[k].2.size then 2 else eQ (fs.drop (k+1))):=zh (by rw[hR.out,ww _ _ hlt];rfl);clear hR;generalize hfk:fs[k]=f at *;clear hfk;obtain⟨nm,tx⟩:=f;simp only at cn ct hsz hR2;obtain⟨hs1,hs2⟩:=hsz;have c:=sD nm wr hs1;by_cases hn:isN nm.data.toList=false
  ·rw[hn]at c;go_wp2_with fail;refine c.mono ?_;rintro e w2 ⟨rfl,rfl⟩;go_wp2;go_ret;exact⟨by rw[hR2.out,zI hn];rfl,hBw.out⟩
  have hn2:isN nm.data.toList=true:=by simpa using hn
  rw[hn2]at c;by_cases ht:4096<tx.size
  ·have htz:(4096:Int)<(tx.size:Int):=jo;go_wp2_with fail;refine c.mono ?_;rintro e w2 ⟨rfl,rfl⟩;go_wp2;go_ret;exact⟨by rw[hR2.out,zH hn,zI ht];rfl,hBw.out⟩
  have htz:¬(4096:Int)<(tx.size:Int):=jo;have hR3:Hid (r=eQ (fs.drop (k+1))):=zh (by rw[hR2.out,zH hn,zH ht]);clear hR2 hn hn2;go_wp2_with fail;refine c.mono ?_;rintro e w2 ⟨rfl,rfl⟩;go_wp2;go_roundw
  case rel=>exact⟨k+1,jo,ju,hR3,hB⟩
  simp[intOf];omega
 have hkz:¬(k:Int)<(fn:Int):=jo;go_wp2;go_ret;exact⟨by rw[hR.out,List.drop_eq_nil_of_le jo];rfl,hBw.out⟩
theorem DY(t:Int)(F:Option Addr)(fn fc:Nat)(fs:List Fl)(w:World)(h:FlAt w w.heap.size F fn fc fs)(hok:aM fs=0) :
  Calls prog 146 #[.agg #[.int .i64 t,.slice F fn fc]] w fun e w'=>e=.returned (.int .i64 (szE fs))∧zWW w w':=by
 have hl:=h.len;have hl1:fs.length≤fn:=jo;have hl2:fn≤fs.length:=jo;have hcap:=h.cap;have hsz:=lL hok;have Fin:Hid ((szE fs:Int)=((16+szF (fs.take fs.length):Nat):Int)):=zh (by rw[List.take_length];rfl);unfold szE at hsz;have HZ:=fun k=>uw fs k
 have hfew:fn≤16:=by have:=(gP hok).1;omega
 have HZ:=zh HZ;have hB1:zWW w (w.alloc (.cells #[.int .i64 t,.slice F fn fc] 46)):=zRR _;have hF1:=h.grow hB1;have hX:=(Blk.new w 46 #[.int .i64 t,.slice F fn fc]);have H:=zh (And.intro hF1 (And.intro hX hB1));clear hl h hok hF1 hX hB1;generalize szE fs=r at *;go_enter func146,ntmps146;go_wp2;generalize w.alloc (.cells #[.int .i64 t,.slice F fn fc] 46)=W0 at *;go_loopw [3,4] (fun n i wr=>∃k:Nat,k≤fs.length∧i=.int .i64 (k:Nat)∧n=.int .i64 ((16+szF (fs.take k):Nat):Int)∧Hid (zWW W0 wr)) (fun _ i _=>fs.length-(intOf i).toNat)
 case atStart=>exact⟨0,zS _,rfl,rfl,zh (zw _ _)⟩
 obtain⟨k,hk,rfl,rfl,hB⟩:=hrel;have d1:=(H.out.2.1.below hB.out H.out.2.1.lt).cell 1;simp only[zA,zB,zC]at d1;by_cases hlt:k<fs.length
 ·have hkz:(k:Int)<(fn:Int):=jo;have hk0:(0:Int)≤(k:Int):=jo;obtain⟨b,o,rfl,hbb,cn,ct⟩:=(H.out.1.grow hB.out).at_ hlt;have hat:=xx fs k hlt;have hz1:=HZ.out (k+1);rw[hat]at hz1;have HAT:Hid (szF (fs.take (k+1))=szF (fs.take k)+(fs[k].1.size+fs[k].2.size)):=zh hat;clear hat;generalize hfk:fs[k]=f at *;clear hfk;obtain⟨nm,tx⟩:=f;simp only at cn ct hz1 HAT;generalize hzk:szF (fs.take k)=zk at *;clear hzk;have p1:IntKind.i64.wrap (16+(zk:Int)+(nm.size:Int))=16+(zk:Int)+(nm.size:Int):=by rw[IntKind.wrap_i64];omega
  have p2:IntKind.i64.wrap (16+(zk:Int)+(nm.size:Int)+(tx.size:Int))=16+(zk:Int)+(nm.size:Int)+(tx.size:Int):=by rw[IntKind.wrap_i64];omega
  go_wp2;go_quiet (fail);clear p1 p2;have hB2:Hid (zWW W0 (wr.drewN nq)):=zh (hB.out.trans (FA wr nq));clear hB d1 cn ct;generalize wr.drewN nq=w2 at *;go_wp2;go_roundw
  case rel=>exact⟨k+1,jo,ju,by rw[HAT.out];go_num,hB2⟩
  simp[intOf];omega
 have hkz:¬(k:Int)<(fn:Int):=jo;have e:k=fs.length:=jo;have Fin2:Hid ((r:Int)=((16+szF (fs.take k):Nat):Int)):=zh (by rw[e];exact Fin.out);clear Fin e;go_wp2;go_ret;exact⟨by rw[Fin2.out];rfl,H.out.2.2.trans (hB.out.mono H.out.2.2.size)⟩
end Ev

namespace Ev
open Go.RowKit Ut Tk Qy
def EvV(w:World)(B:Nat)(e:Evn)(v:List Value):Prop:=∃F fn fc,v=[.int .i64 e.1,.slice F fn fc]∧FlAt w B F fn fc e.2
theorem EvV.len{w:World}{B:Nat}{e:Evn}{v:List Value}(h:EvV w B e v):v.length=2:=by obtain⟨F,fn,fc,rfl,_⟩:=h;rfl
structure EvsAt (w:World) (B:Nat) (A:Option Addr) (n c:Nat) (l:List Evn):Prop where
 ln:l.length=n
 few:n≤4398046511104
 cap:n≤c
 ex:∃vss:List (List Value),vss.length=n∧Reads w B 2 A n vss.flatten∧∀i (h:i<l.length) (h':i<vss.length),EvV w B l[i] vss[i]
theorem EvsAt.keep{w w':World}{B n c:Nat}{A:Option Addr}{l:List Evn}(h:EvsAt w B A n c l)(hk:∀b o,b<B→w'.cell? ⟨b,o,none⟩=w.cell? ⟨b,o,none⟩):EvsAt w' B A n c l:=by
 obtain⟨vss,h1,h2,h3⟩:=h.ex;exact⟨h.ln,h.few,h.cap,vss,h1,h2.keep hk,fun i a b=>by obtain⟨F,fn,fc,e,g⟩:=h3 i a b;exact⟨F,fn,fc,e,g.keep hk⟩⟩
theorem EvsAt.more{w:World}{B B' n c:Nat}{A:Option Addr}{l:List Evn}(h:EvsAt w B A n c l)(hB:B≤B'):EvsAt w B' A n c l:=by
 obtain⟨vss,h1,h2,h3⟩:=h.ex;exact⟨h.ln,h.few,h.cap,vss,h1,h2.more hB,fun i a b=>by obtain⟨F,fn,fc,e,g⟩:=h3 i a b;exact⟨F,fn,fc,e,g.more hB⟩⟩
theorem EvsAt.grow{w w':World}{n c:Nat}{A:Option Addr}{l:List Evn}(h:EvsAt w w.heap.size A n c l)(hb:zWW w w'):EvsAt w' w'.heap.size A n c l:=(h.keep fun _ _ hp=>hb.cell hp).more hb.size
theorem EvsAt.at_{w:World}{B n c:Nat}{A:Option Addr}{l:List Evn}(h:EvsAt w B A n c l){i:Nat}(hi:i<l.length) :
  ∃b o F fn fc,A=some ⟨b,o,none⟩∧b<B∧w.cell? ⟨b,o+i*2,none⟩=some (.int .i64 l[i].1)∧w.cell? ⟨b,o+i*2+1,none⟩=some (.slice F fn fc)∧FlAt w B F fn fc l[i].2:=by
 obtain⟨vss,h1,h2,h3⟩:=h.ex;have hl:=h.ln;have hi':i<vss.length:=jo
 have h4:∀v∈vss,v.length=2:=fun v hv=>by
  obtain⟨j,hj,rfl⟩:=zp.1 hv;exact(h3 j jo hj).len
 obtain⟨F,fn,fc,e,g⟩:=h3 i hi hi';obtain⟨b,o,eA,hb,hc⟩:=h2.2 jo;have f0:=cQ h4 i 0 hi' jo;have f1:=cQ h4 i 1 hi' jo;rw[e]at f0 f1;have c0:=hc _ _ f0;have c1:=hc _ _ f1;rw[←Nat.add_assoc]at c1;exact⟨b,o,F,fn,fc,eA,hb,c0,c1,g⟩
theorem xy(l:List Evn)(k:Nat)(h:k<l.length):szL (l.take (k+1))=szL (l.take k)+szE l[k].2:=by
 rw[zL h,Ek]
theorem yU{l:List Evn}{k:Nat}(h:∀e∈l.take k,aM e.2=0)(hk:k<l.length)(h2:aM l[k].2=0):∀e∈l.take (k+1),aM e.2=0:=fun e he=>by
 rw[zL hk,List.mem_append,List.mem_singleton]at he;rcases he with he|rfl
 ·exact h e he
 exact h2
theorem vC{seq:Int}{l:List Evn}(h0:l≠[])(h1:¬64<l.length)(h:∀e∈l.take l.length,aM e.2=0):bI seq l=if 65536<szL l then 2 else if seq<1∨1099511627776-(l.length:Int)+1<seq then 5 else 0:=by
 rw[List.take_length]at h;unfold bI;rw[zH h0,zH h1,zI (Gy h)]
theorem vD{seq:Int}{l:List Evn}{k:Nat}(h0:l≠[])(h1:¬64<l.length)(hk:k<l.length)(h:∀e∈l.take k,aM e.2=0)(hne:aM l[k].2≠0):bI seq l=aM l[k].2:=by
 have e:=Gz hk h hne;unfold bI;rw[zH h0,zH h1,zH (by rw[e];exact hne),e]
theorem rO(seq:Int)(A:Option Addr)(n c:Nat)(l:List Evn)(w:World)(h:EvsAt w w.heap.size A n c l) :
  Calls prog 63 #[.agg #[.int .i64 seq,.slice A n c]] w fun e w'=>e=.returned (.int .i64 (bI seq l))∧zWW w w':=by
 have hl:=h.ln;have hl1:l.length≤n:=jo;have hl2:n≤l.length:=jo;have hcap:=h.cap;have hfew:=h.few;have hB1:zWW w (w.alloc (.cells #[.int .i64 seq,.slice A n c] 111)):=zRR _;have hF1:=h.grow hB1;have hX:=(Blk.new w 111 #[.int .i64 seq,.slice A n c]);have H:=zh (And.intro hF1 (And.intro hX hB1));clear hl h hF1 hX hB1;obtain⟨r,hr⟩:∃r,r=bI seq l:=⟨_,rfl⟩;rw[←hr];have Fin:=zh hr;clear hr;by_cases hz:n=0
 ·subst hz;have e0:l=[]:=List.length_eq_zero_iff.1 jo;have F2:Hid (r=1):=zh (by rw[Fin.out,e0];rfl);clear e0 Fin;go_enter func63,ntmps63;go_wp2;go_ret;exact⟨by rw[F2.out];rfl,H.out.2.2⟩
 have hz1:((n:Int)=0)=False:=eq_false jo;have hz2:((n:Int)==0)=false:=jm;have N0:Hid (l≠[]):=zh (fun e=>by rw[e]at hl2;simp at hl2;omega);by_cases hbig:64<n
 ·have hbz:(64:Int)<(n:Int):=jo;have F2:Hid (r=3):=zh (by rw[Fin.out];unfold bI;rw[zH N0.out,zI jo]);clear Fin hz;go_enter func63,ntmps63;go_wp2;go_ret;exact⟨by rw[F2.out];rfl,H.out.2.2⟩
 have hbz:¬(64:Int)<(n:Int):=jo;have N1:Hid (¬64<l.length):=zh jo;clear hz;go_enter func63,ntmps63;go_wp2;generalize w.alloc (.cells #[.int .i64 seq,.slice A n c] 111)=W0 at *;go_loopw [4,20] (fun s i wr=>∃k:Nat,k≤l.length∧i=.int .i64 (k:Nat)∧s=.int .i64 (szL (l.take k):Nat)∧Hid (∀e∈l.take k,aM e.2=0)∧Hid (zWW W0 wr)) (fun _ i _=>l.length-(intOf i).toNat)
 case atStart=>exact⟨0,zS _,rfl,rfl,zh jz,zh (zw _ _)⟩
 obtain⟨k,hk,rfl,rfl,hO,hB⟩:=hrel;have d0:=(H.out.2.1.below hB.out H.out.2.1.lt).cell 0;have d1:=(H.out.2.1.below hB.out H.out.2.1.lt).cell 1;simp only[zA,zB,zC]at d0 d1;have hBw:Hid (zWW w wr):=zh (H.out.2.2.trans (hB.out.mono H.out.2.2.size));have hzt:=xm hO.out;have hlt2:(l.take k).length≤k:=List.length_take_le _ _;have hzb:szL (l.take k)≤4480000:=jo;clear hzt hlt2;by_cases hlt:k<l.length
 ·have hkz:(k:Int)<(n:Int):=jo;have hk0:(0:Int)≤(k:Int):=jo;have hG:=H.out.1.grow hB.out;obtain⟨b,o,F,fn,fc,rfl,hbb,ca,cf,hFl⟩:=hG.at_ hlt;have dbx:=Blk.new wr 46 #[.int .i64 l[k].1,.slice F fn fc];have hB2:zWW W0 (wr.alloc (.cells #[.int .i64 l[k].1,.slice F fn fc] 46)):=hB.out.alloc hB.out.size _;have hFl2:=hFl.grow ((zw _ wr).alloc (zG _) (.cells #[.int .i64 l[k].1,.slice F fn fc] 46));have HB2:=zh (And.intro hB2 dbx);clear hB2 dbx;have CC:=zh (fun(wx:World) (hx:FlAt wx wx.heap.size F fn fc l[k].2)=>DX l[k].1 F fn fc l[k].2 wx hx);have SS:=zh (fun(wx:World) (hx:FlAt wx wx.heap.size F fn fc l[k].2)=>FB l[k].1 F fn fc l[k].2 wx hx);have HSZ:=zh (xy l k hlt);have BAD:Hid (aM l[k].2≠0→r=aM l[k].2):=zh (fun hne=>by rw[Fin.out];exact vD N0.out N1.out hlt hO.out hne);have OKN:Hid (aM l[k].2=0→∀e∈l.take (k+1),aM e.2=0):=zh (fun h=>yU hO.out hlt h);have HSB:Hid (aM l[k].2=0→szE l[k].2≤70000):=zh lL;have HFL:=zh hFl2;clear hG hFl hO;generalize hev:l[k]=ev at *;clear hev;obtain⟨ta,fs⟩:=ev;simp only at ca CC SS HSZ BAD OKN HSB;clear hFl2;simp only at HB2 HFL;go_wp2_with fail;generalize wr.alloc (.cells #[.int .i64 ta,.slice F fn fc] 46)=w1 at *;have e0:=HB2.out.2.cell 0;have e1:=HB2.out.2.cell 1;simp only[zA,zB,zC]at e0 e1;clear ca cf d0 d1;go_wp2_with fail;refine(CC.out _ HFL.out).mono ?_;rintro e w2 ⟨rfl,hb2⟩;have hB3:Hid (zWW W0 w2):=zh (HB2.out.1.trans (hb2.mono HB2.out.1.size));have HFL2:=zh (HFL.out.grow hb2);have dbx2:=HB2.out.2.below hb2 HB2.out.2.lt;have e0:=dbx2.cell 0;have e1:=dbx2.cell 1;simp only[zA,zB,zC]at e0 e1;clear dbx2 HB2;have hBw3:Hid (zWW w w2):=zh (H.out.2.2.trans (hB3.out.mono H.out.2.2.size));clear hb2 hB hBw CC HFL;by_cases hc:aM fs=0
  ·have OKN2:=zh (OKN.out hc);have hse:=HSB.out hc;have HC:=zh hc;rw[hc];clear hc BAD OKN HSB;have hcz:((0:Int) != 0)=false:=rfl;go_wp2_with fail;refine(SS.out _ HFL2.out HC.out).mono ?_;rintro e w3 ⟨rfl,hb3⟩;have hB4:Hid (zWW W0 w3):=zt hB3 hb3;generalize hzk:szL (l.take k)=zk at *;generalize hze:szE fs=ze at *;clear hzk hze hb3 hB3 hBw3 SS HFL2;go_wp2;go_roundw
   case rel=>exact⟨k+1,jo,ju,by rw[HSZ.out];go_num,OKN2,hB4⟩
   simp[intOf];omega
  have BAD2:=zh (BAD.out hc);generalize hcc:aM fs=cc at *;have hcz:(cc != 0)=true:=by simpa using hc
  have hcz2:(cc=0)=False:=eq_false hc;clear hcc hc BAD OKN HSB SS HFL2;go_wp2;go_ret;exact⟨by rw[BAD2.out];rfl,hBw3.out⟩
 have hkz:¬(k:Int)<(n:Int):=jo;obtain rfl:k=l.length:=jo;have F2:Hid (r=if 65536<szL l then 2 else if seq<1∨1099511627776-(l.length:Int)+1<seq then 5 else 0):=zh (by rw[Fin.out];exact vC N0.out N1.out hO.out);rw[List.take_length]at hzb ⊢;clear Fin hO hlt hk;by_cases hz:65536<szL l
 ·have hzz:(65536:Int)<(szL l:Int):=jo;go_wp2;go_ret;exact⟨by rw[F2.out,zI hz];rfl,hBw.out⟩
 have hzz:¬(65536:Int)<(szL l:Int):=jo;have hrng:(n:Int)≤64:=jo;by_cases hq1:seq<1
 ·have F3:Hid (r=5):=zh (by rw[F2.out,zH hz,zI (.inl hq1)]);clear F2 hz;go_wp2;go_ret;exact⟨by rw[F3.out];rfl,hBw.out⟩
 by_cases hq2:1099511627776-(n:Int)+1<seq
 ·have F3:Hid (r=5):=zh (by rw[F2.out,zH hz,zI (.inr jo)]);have hq3:1099511627776-((n:Int)-1)<seq:=jo;clear F2 hz;go_wp2;go_ret;exact⟨by rw[F3.out];rfl,hBw.out⟩
 have F3:Hid (r=0):=zh (by rw[F2.out,zH hz,zH jo]);have hq3:¬1099511627776-((n:Int)-1)<seq:=jo;clear F2 hz;go_wp2;go_ret;exact⟨by rw[F3.out];rfl,hBw.out⟩
theorem z8(seq:Int)(A:Option Addr)(n c:Nat)(l:List Evn)(w:World)(h:EvsAt w w.heap.size A n c l) :
  Calls prog 117 #[.agg #[.int .i64 seq,.slice A n c]] w fun e w'=>e=.returned (.int .i64 (bI seq l))∧zWW w w':=by
 have hl:=h.ln;have hl1:l.length≤n:=jo;have hl2:n≤l.length:=jo;have hcap:=h.cap;have hfew:=h.few;have hB1:zWW w (w.alloc (.cells #[.int .i64 seq,.slice A n c] 111)):=zRR _;have hF1:=h.grow hB1;have hX:=(Blk.new w 111 #[.int .i64 seq,.slice A n c]);have H:=zh (And.intro hF1 (And.intro hX hB1));clear hl h hF1 hX hB1;obtain⟨r,hr⟩:∃r,r=bI seq l:=⟨_,rfl⟩;rw[←hr];have Fin:=zh hr;clear hr;by_cases hz:n=0
 ·subst hz;have e0:l=[]:=List.length_eq_zero_iff.1 jo;have F2:Hid (r=1):=zh (by rw[Fin.out,e0];rfl);clear e0 Fin;go_enter func117,ntmps117;go_wp2;go_ret;exact⟨by rw[F2.out];rfl,H.out.2.2⟩
 have hz1:((n:Int)=0)=False:=eq_false jo;have hz2:((n:Int)==0)=false:=jm;have N0:Hid (l≠[]):=zh (fun e=>by rw[e]at hl2;simp at hl2;omega);by_cases hbig:64<n
 ·have hbz:(64:Int)<(n:Int):=jo;have F2:Hid (r=3):=zh (by rw[Fin.out];unfold bI;rw[zH N0.out,zI jo]);clear Fin hz;go_enter func117,ntmps117;go_wp2;go_ret;exact⟨by rw[F2.out];rfl,H.out.2.2⟩
 have hbz:¬(64:Int)<(n:Int):=jo;have N1:Hid (¬64<l.length):=zh jo;clear hz;go_enter func117,ntmps117;go_wp2;generalize w.alloc (.cells #[.int .i64 seq,.slice A n c] 111)=W0 at *;go_loopw [3,4] (fun s i wr=>∃k:Nat,k≤l.length∧i=.int .i64 (k:Nat)∧s=.int .i64 (szL (l.take k):Nat)∧Hid (∀e∈l.take k,aM e.2=0)∧Hid (zWW W0 wr)) (fun _ i _=>l.length-(intOf i).toNat)
 case atStart=>exact⟨0,zS _,rfl,rfl,zh jz,zh (zw _ _)⟩
 obtain⟨k,hk,rfl,rfl,hO,hB⟩:=hrel;have d0:=(H.out.2.1.below hB.out H.out.2.1.lt).cell 0;have d1:=(H.out.2.1.below hB.out H.out.2.1.lt).cell 1;simp only[zA,zB,zC]at d0 d1;have hBw:Hid (zWW w wr):=zh (H.out.2.2.trans (hB.out.mono H.out.2.2.size));have hzt:=xm hO.out;have hlt2:(l.take k).length≤k:=List.length_take_le _ _;have hzb:szL (l.take k)≤4480000:=jo;clear hzt hlt2;by_cases hlt:k<l.length
 ·have hkz:(k:Int)<(n:Int):=jo;have hk0:(0:Int)≤(k:Int):=jo;have hG:=H.out.1.grow hB.out;obtain⟨b,o,F,fn,fc,rfl,hbb,ca,cf,hFl⟩:=hG.at_ hlt;have CC:=zh (fun(wx:World) (hx:FlAt wx wx.heap.size F fn fc l[k].2)=>Bi l[k].1 F fn fc l[k].2 wx hx);have SS:=zh (fun(wx:World) (hx:FlAt wx wx.heap.size F fn fc l[k].2)=>DY l[k].1 F fn fc l[k].2 wx hx);have HSZ:=zh (xy l k hlt);have BAD:Hid (aM l[k].2≠0→r=aM l[k].2):=zh (fun hne=>by rw[Fin.out];exact vD N0.out N1.out hlt hO.out hne);have OKN:Hid (aM l[k].2=0→∀e∈l.take (k+1),aM e.2=0):=zh (fun h=>yU hO.out hlt h);have HSB:Hid (aM l[k].2=0→szE l[k].2≤70000):=zh lL;have HFL:=zh hFl;clear hG hFl hO;generalize hev:l[k]=ev at *;clear hev;obtain⟨ta,fs⟩:=ev;simp only at ca CC SS HSZ BAD OKN HSB;go_wp2_with fail;refine(CC.out _ HFL.out).mono ?_;rintro e w2 ⟨rfl,hb2⟩;have hB3:Hid (zWW W0 w2):=zt hB hb2;have HFL2:=zh (HFL.out.grow hb2);have d0:=(H.out.2.1.below hB3.out H.out.2.1.lt).cell 0;have d1:=(H.out.2.1.below hB3.out H.out.2.1.lt).cell 1;simp only[zA,zB,zC]at d0 d1;have ca2:=(hb2.cell (p:=⟨b,o+k*2,none⟩) hbb).trans ca;have cf2:=(hb2.cell (p:=⟨b,o+k*2+1,none⟩) hbb).trans cf;clear ca cf;have hBw3:Hid (zWW w w2):=zh (H.out.2.2.trans (hB3.out.mono H.out.2.2.size));clear hb2 hB hBw CC HFL;by_cases hc:aM fs=0
  ·have OKN2:=zh (OKN.out hc);have hse:=HSB.out hc;have HC:=zh hc;rw[hc];clear hc BAD OKN HSB;have hcz:((0:Int) != 0)=false:=rfl;go_wp2_with fail;refine(SS.out _ HFL2.out HC.out).mono ?_;rintro e w3 ⟨rfl,hb3⟩;have hB4:Hid (zWW W0 w3):=zt hB3 hb3;generalize hzk:szL (l.take k)=zk at *;generalize hze:szE fs=ze at *;clear hzk hze hb3 hB3 hBw3 SS HFL2;go_wp2;go_roundw
   case rel=>exact⟨k+1,jo,ju,by rw[HSZ.out];go_num,OKN2,hB4⟩
   simp[intOf];omega
  have BAD2:=zh (BAD.out hc);generalize hcc:aM fs=cc at *;have hcz:(cc != 0)=true:=by simpa using hc
  have hcz2:(cc=0)=False:=eq_false hc;clear hcc hc BAD OKN HSB SS HFL2;go_wp2;go_ret;exact⟨by rw[BAD2.out];rfl,hBw3.out⟩
 have hkz:¬(k:Int)<(n:Int):=jo;obtain rfl:k=l.length:=jo;have F2:Hid (r=if 65536<szL l then 2 else if seq<1∨1099511627776-(l.length:Int)+1<seq then 5 else 0):=zh (by rw[Fin.out];exact vC N0.out N1.out hO.out);rw[List.take_length]at hzb ⊢;clear Fin hO hlt hk;by_cases hz:65536<szL l
 ·have hzz:(65536:Int)<(szL l:Int):=jo;go_wp2;go_ret;exact⟨by rw[F2.out,zI hz];rfl,hBw.out⟩
 have hzz:¬(65536:Int)<(szL l:Int):=jo;have hrng:(n:Int)≤64:=jo;by_cases hq1:seq<1
 ·have F3:Hid (r=5):=zh (by rw[F2.out,zH hz,zI (.inl hq1)]);clear F2 hz;go_wp2;go_ret;exact⟨by rw[F3.out];rfl,hBw.out⟩
 by_cases hq2:1099511627776-(n:Int)+1<seq
 ·have F3:Hid (r=5):=zh (by rw[F2.out,zH hz,zI (.inr jo)]);have hq3:1099511627776-((n:Int)-1)<seq:=jo;clear F2 hz;go_wp2;go_ret;exact⟨by rw[F3.out];rfl,hBw.out⟩
 have F3:Hid (r=0):=zh (by rw[F2.out,zH hz,zH jo]);have hq3:¬1099511627776-((n:Int)-1)<seq:=jo;clear F2 hz;go_wp2;go_ret;exact⟨by rw[F3.out];rfl,hBw.out⟩
end Ev

namespace Ev
open Go.RowKit Ut Tk Qy Qp
structure Chg (O:Nat→Prop) (w w':World):Prop where
 os:w'.os=w.os
 tape:w'.tape=w.tape
 output:w'.output=w.output
 size:w.heap.size≤w'.heap.size
 block:∀k,k<w.heap.size→¬O k→w'.heap[k]?=w.heap[k]?
theorem Chg.refl(O:Nat→Prop)(w:World):Chg O w w:=⟨rfl,rfl,rfl,zG _,fun _ _ _=>rfl⟩
theorem Chg.trans{O O':Nat→Prop}{a b c:World}(h:Chg O a b)(k:Chg O' b c)(hO:∀x,O' x→O x∨a.heap.size≤x):Chg O a c:=
 ⟨k.os.trans h.os,k.tape.trans h.tape,k.output.trans h.output,zY h.size k.size,fun i hi hn=>(k.block i (zT hi h.size) (fun hk=>by
  rcases hO i hk with g|g
  ·exact hn g
  omega)).trans (h.block i hi hn)⟩
theorem Chg.mono{O O':Nat→Prop}{a b:World}(h:Chg O a b)(hO:∀x,x<a.heap.size→O x→O' x):Chg O' a b:=⟨h.os,h.tape,h.output,h.size,fun k hk hn=>h.block k hk (fun ho=>hn (hO k hk ho))⟩
theorem Chg.of_below{O:Nat→Prop}{B:Nat}{a b:World}(h:Below B a b)(hO:∀k,B≤k→k<a.heap.size→O k):Chg O a b:=⟨h.os,h.tape,h.output,h.size,fun k hk hn=>h.block k (Nat.lt_of_not_le (fun hB=>hn (hO k hB hk)))⟩
theorem Chg.of_new{O:Nat→Prop}{a b:World}(h:zWW a b):Chg O a b:=Chg.of_below h (fun k h1 h2=>by omega)
theorem Chg.of_grown{O:Nat→Prop}{a b:World}{row:Option Nat}(h:a.grownBy b row)(hO:∀k,row=some k→O k):Chg O a b:=⟨h.os,h.tape,h.output,h.size,fun k hk hn=>h.block k hk (fun e=>hn (hO k e.symm))⟩
theorem Chg.below{O:Nat→Prop}{B:Nat}{a b:World}(h:Chg O a b)(hB:B≤a.heap.size)(hO:∀k,O k→B≤k):Below B a b:=⟨h.os,h.tape,h.output,h.size,fun k hk=>h.block k (zT hk hB) (fun ho=>by have:=hO k ho;omega)⟩
theorem Chg.then_new{O:Nat→Prop}{a b c:World}(h:Chg O a b)(k:zWW b c):Chg O a c:=h.trans (O':=fun _=>False) (Chg.of_new k) (fun x hx=>hx.elim)
theorem Chg.alloc{O:Nat→Prop}{a b:World}(h:Chg O a b)(o:Obj):Chg O a (b.alloc o):=h.then_new (zRR _)
theorem Chg.cell{O:Nat→Prop}{a b:World}(h:Chg O a b){p:Addr}(hp:p.block<a.heap.size)(hn:¬O p.block):b.cell? p=a.cell? p:=vN (h.block _ hp hn)
def Tg(w:World)(T:TypeId)(b:Nat):Prop:=∃cs fr,w.heap[b]?=some (.cells cs T fr)
theorem Tg.lt{w:World}{T:TypeId}{b:Nat}(h:Tg w T b):b<w.heap.size:=by
 obtain⟨cs,fr,h⟩:=h;exact(Array.getElem?_eq_some_iff.1 h).1
theorem Tg.one{w:World}{T T':TypeId}{b:Nat}(h:Tg w T b)(h':Tg w T' b):T=T':=by
 obtain⟨cs,fr,h⟩:=h;obtain⟨cs',fr',h'⟩:=h';rw[h]at h';injection h' with h';injection h'
theorem Tg.same{w w':World}{T:TypeId}{b:Nat}(h:Tg w T b)(e:w'.heap[b]?=w.heap[b]?):Tg w' T b:=by
 obtain⟨cs,fr,h⟩:=h;exact⟨cs,fr,e.trans h⟩
theorem Tg.new{w w':World}{T:TypeId}{b:Nat}(h:Tg w T b)(hb:zWW w w'):Tg w' T b:=h.same (hb.block b h.lt)
theorem aY{w:World}{base k n g:Nat}{T:TypeId}{v:Value}{xs:List Value}(h:w.ownsRow base T k v n xs)(hv:v.ownBlock=some g):Tg w T g:=by
 rcases h.2 with⟨rfl,_⟩|⟨g',cap,cur,rfl,_,h2,_⟩
 ·cases hv
 injection hv with hv;subst hv;exact⟨cur,_,h2⟩
theorem uK{w w':World}{b:Nat}(e:w'.heap[b]?=w.heap[b]?)(o:Nat):w'.cell? ⟨b,o,none⟩=w.cell? ⟨b,o,none⟩:=vN e
theorem _root_.Go.Proofs.YtmomjpolkkbhnaaGreat.Qp.ReadsS.same{w w':World}{S S':Nat→Prop}{k n:Nat}{A:Option Addr}{xs:List Value}(h:ReadsS w S k A n xs)(hS:∀b,S b→S' b∧w'.heap[b]?=w.heap[b]?):ReadsS w' S' k A n xs:=
 (h.keep (fun b o hb=>uK (hS b hb).2 o)).mono (fun b hb=>(hS b hb).1)
structure DcS (w:World) (S:Nat→Prop) (d:Dc) (v:List Value):Prop where
 ex:∃F fn fc,v=[.int .i64 d.seq,.int .i64 d.at_,.slice F fn fc]∧ReadsS w S 2 F fn (aO d.fs)∧d.fs.length=fn∧fn≤8796093021952∧fn≤fc∧(F=none→fc=0)
theorem DcS.len{w:World}{S:Nat→Prop}{d:Dc}{v:List Value}(h:DcS w S d v):v.length=3:=by obtain⟨F,fn,fc,rfl,_⟩:=h.ex;rfl
theorem DcS.same{w w':World}{S S':Nat→Prop}{d:Dc}{v:List Value}(h:DcS w S d v)(hS:∀b,S b→S' b∧w'.heap[b]?=w.heap[b]?):DcS w' S' d v:=by
 obtain⟨F,fn,fc,e,h1,h2⟩:=h.ex;exact⟨F,fn,fc,e,h1.same hS,h2⟩
structure DocsS (w:World) (R S:Nat→Prop) (A:Option Addr) (n:Nat) (ds:List Dc):Prop where
 ln:ds.length=n
 ex:∃vss:List (List Value),vss.length=n∧ReadsS w R 3 A n vss.flatten∧∀i (h:i<ds.length) (h':i<vss.length),DcS w S ds[i] vss[i]
theorem DocsS.same{w w':World}{R R' S S':Nat→Prop}{A:Option Addr}{n:Nat}{ds:List Dc}(h:DocsS w R S A n ds)(hR:∀b,R b→R' b∧w'.heap[b]?=w.heap[b]?)(hS:∀b,S b→S' b∧w'.heap[b]?=w.heap[b]?):DocsS w' R' S' A n ds:=by
 obtain⟨vss,h1,h2,h3⟩:=h.ex;exact⟨h.ln,vss,h1,h2.same hR,fun i a b=>(h3 i a b).same hS⟩
theorem DocsS.nil{w:World}{R S:Nat→Prop}{A:Option Addr}:DocsS w R S A 0 []:=⟨rfl,[],rfl,ReadsS.none_,fun i h=>absurd h (by simp)⟩
theorem DocsS.at_{w:World}{R S:Nat→Prop}{A:Option Addr}{n:Nat}{ds:List Dc}(h:DocsS w R S A n ds){i:Nat}(hi:i<ds.length) :
  ∃b o F fn fc,A=some ⟨b,o,none⟩∧R b∧w.cell? ⟨b,o+i*3,none⟩=some (.int .i64 ds[i].seq)∧w.cell? ⟨b,o+i*3+1,none⟩=some (.int .i64 ds[i].at_)∧w.cell? ⟨b,o+i*3+2,none⟩=some (.slice F fn fc) ∧
   ReadsS w S 2 F fn (aO ds[i].fs)∧ds[i].fs.length=fn∧fn≤8796093021952∧fn≤fc∧(F=none→fc=0):=by
 obtain⟨vss,h1,h2,h3⟩:=h.ex;have hl:=h.ln;have hi':i<vss.length:=jo
 have h4:∀v∈vss,v.length=3:=fun v hv=>by
  obtain⟨j,hj,rfl⟩:=zp.1 hv;exact(h3 j jo hj).len
 obtain⟨F,fn,fc,e,g1,g2,g3,g4⟩:=(h3 i hi hi').ex;obtain⟨b,o,eA,hb,hc⟩:=h2.2 jo;have f0:=cQ h4 i 0 hi' jo;have f1:=cQ h4 i 1 hi' jo;have f2:=cQ h4 i 2 hi' jo;rw[e]at f0 f1 f2;have c0:=hc _ _ f0;have c1:=hc _ _ f1;have c2:=hc _ _ f2;rw[←Nat.add_assoc]at c1 c2;exact⟨b,o,F,fn,fc,eA,hb,c0,c1,c2,g1,g2,g3,g4⟩
theorem fR:(prog.info? 48).map (fun i=>(i.zero,i.size,i.bytes))=some (some (.agg #[.int .i64 0,.int .i64 0,.slice none 0 0]),3,40):=by kernel_rfl
theorem pR:(prog.info? 85).map (fun i=>(i.zero,i.size,i.bytes))=some (some (.agg #[.string ByteArray.empty,.string ByteArray.empty]),2,32):=by kernel_rfl
theorem lZ(w:World)(h o:Nat)(u:Value):w.grownBy (w.setCell ⟨h,o,none⟩ u) (some h):=
 ⟨rfl,rfl,rfl,by simp[World.setCell],fun k _ hne=>vL _ _ _ _ (fun e=>hne (by rw[e]))⟩
theorem aP{w:World}{base:Nat}{e:TypeId}{size n:Nat}{v:Value}{xs:List Value}(h:w.ownsRow base e size v n xs) :
  ∃A c,v=.slice A n c∧Reads w w.heap.size size A n xs∧n≤c∧(A=none→c=0)∧(0<n→∃g,A=some ⟨g,0,none⟩∧∃cur,w.heap[g]?=some (.cells cur e (0,0))):=by
 obtain⟨A,c,rfl,hR⟩:=aU h;refine⟨A,c,rfl,hR,?_⟩;rcases h.2 with⟨hv,h0⟩|⟨g,cap,cur,hv,_,hg,hnc,_⟩
 ·injection hv with _ _ hc;exact⟨jo,fun _=>hc,fun h=>jo⟩
 injection hv with hA _ hc;exact⟨jo,fun e=>(by rw[hA]at e;cases e),fun _=>⟨g,hA,cur,hg⟩⟩
theorem FC(fs:List (ByteArray × ByteArray)):∀u∈aO fs,u.oneCell'=true:=by
 intro u hu;unfold aO at hu;obtain⟨f,_,hf⟩:=List.mem_flatMap.1 hu;simp at hf;rcases hf with rfl|rfl<;>rfl
def Hr(w:World)(fs:List (ByteArray × ByteArray))(e:Ending)(w':World):Prop:=∃v,e=.returned v∧w'.ownsRow w.heap.size 85 2 v fs.length (aO fs)∧zWW w w'
theorem tG(F:Option Addr)(fn fc:Nat)(fs:List (ByteArray × ByteArray))(w:World)(hF:Reads w w.heap.size 2 F fn (aO fs))(hl:fs.length=fn)(hn:fn≤1048576)(hnil:F=none→fc=0) :
  Calls prog 91 #[.slice F fn fc] w (Hr w fs):=by
 obtain⟨i0,hi0,hz0,hz1,hz2⟩:=info_parts pR;by_cases h0:F=none
 ·subst h0;obtain rfl:fc=0:=hnil rfl
  have hfn:fn=0:=by
   by_cases h:0<fn
   ·obtain⟨b,o,e,_⟩:=hF.2 h
    cases e
   omega
  subst hfn;have hfs:fs=[]:=List.length_eq_zero_iff.1 hl;subst hfs;have hnl:=fun W:World=>Lib.run_eql_slice_nil (P:=prog) W _ _ none 0 0 0 0 underlying44
  clear hF hl hn hnil;go_enter func91,ntmps91;go_wp2;go_ret;exact⟨_,rfl,vM _ _ _ _,zw _ _⟩
 obtain⟨a,rfl⟩:=Option.ne_none_iff_exists'.1 h0;have hnl:=fun W:World=>Lib.run_eql_slice_nil (P:=prog) W _ _ (some a) fn fc 0 0 underlying44
 have HF:=zh hF;have Hl:=zh hl;clear hF hl h0 hnil;go_enter func91,ntmps91;go_wp2_with (at_builtin;refine vH _ rfl _ _ 44 rfl w.heap.size 85 i0 _ 2 32 underlying44 hi0 hz0 hz1 hz2 rfl jd (.slice (some ⟨w.heap.size,0,none⟩) 0 0) 0 [] rfl ?hown a fn fc (aO fs) rfl ?hl ?c1 ?c2 ?c3 ?c4 ?c5 ?_)
 case hown=>
  have h:=World.ownsRow_made (base:=w.heap.size) (e:=85) (size:=2) w #[] 0 jz jx rfl
  simpa using h
 case hl=>rw[mD,Hl.out]
 case c1=>
  intro j u hj
  have hjl:j<fn*2:=by
   have:=(List.getElem?_eq_some_iff.1 hj).1;rw[mD,Hl.out]at this;exact this
  obtain⟨b,o,e,hb,hc⟩:=HF.out.2 jo;injection e with e;subst e;have hadd:(⟨b,o,none⟩:Addr).add j=⟨b,o+j,none⟩:=by unfold Addr.add;split<;>simp_all
  rw[hadd];have hp:=hc j u hj
  first
   | exact hp
   | exact((zRR _:zWW w _).cell (p:=⟨b,o+j,none⟩) hb).trans hp
 case c2=>exact FC fs
 case c3=>unfold maxLen;omega
 case c4=>omega
 case c5=>simp
 intro v' w2 hown hgrow _
 have hbx:zWW w w2:=(zRR _:zWW w _).grown hgrow jz (fun j hj=>by
  injection hj with hj;have hj':w.heap.size=j:=hj
  omega)
 obtain⟨A',c',rfl,_⟩:=aU hown;have Hown:=zh hown;have Hbx:=zh hbx;clear hown hgrow hbx;go_wp2;go_ret;exact⟨_,rfl,by rw[Hl.out];simpa using Hown.out,Hbx.out⟩
abbrev Fd(w:World)(base:Nat)(b:Nat):Prop:=base≤b∧Tg w 85 b
structure DOwn (w:World) (base:Nat) (v:Value) (ds:List Dc):Prop where
 ex:∃vss:List (List Value),vss.length=ds.length∧w.ownsRow base 48 3 v ds.length vss.flatten∧∀i (h:i<ds.length) (h':i<vss.length),DcS w (Fd w base) ds[i] vss[i]
theorem DOwn.start(w:World)(base:Nat):DOwn w base (.slice none 0 0) []:=⟨[],rfl,vM _ _ _ _,fun i h=>absurd h (by simp)⟩
theorem DOwn.below{w w':World}{base:Nat}{v:Value}{ds:List Dc}(h:DOwn w base v ds)(hb:zWW w w'):DOwn w' base v ds:=by
 obtain⟨vss,h1,h2,h3⟩:=h.ex;refine⟨vss,h1,h2.kept (aJ hb none) (by cases hv:v.ownBlock<;>simp),fun i a b=>(h3 i a b).same (fun b hS=>⟨⟨hS.1,hS.2.new hb⟩,hb.block b hS.2.lt⟩)⟩
theorem DOwn.put{w w5:World}{base:Nat}{v v':Value}{ds:List Dc}{d:Dc}{u:List Value}{xs:List Value}(hx:∃vss:List (List Value),vss.length=ds.length∧w.ownsRow base 48 3 v ds.length vss.flatten∧(∀i (h:i<ds.length) (h':i<vss.length),DcS w (Fd w base) ds[i] vss[i])∧xs=vss.flatten)
  (hp:w5.ownsRow base 48 3 v' (ds.length+1) (xs++u)) (hg:w.grownBy w5 v.ownBlock) (hd:DcS w (Fd w base) d u):DOwn w5 base v' (ds ++ [d]):=by
 obtain⟨vss,h1,h2,h3,rfl⟩:=hx
 have keep:∀b,Fd w base b→Fd w5 base b∧w5.heap[b]?=w.heap[b]?:=fun b hS=>by
  have e:w5.heap[b]?=w.heap[b]?:=hg.block b hS.2.lt (fun e=>by
   have:=(aY h2 e.symm).one hS.2
   exact absurd this jd)
  exact⟨⟨hS.1,hS.2.same e⟩,e⟩
 refine⟨vss ++ [u],by simp[h1],?_,fun i a b=>?_⟩
 ·rw[List.flatten_append,zJ]
  simpa using hp
 by_cases hi:i<ds.length
 ·rw[zi hi,zi jo];exact(h3 i hi jo).same keep
 have hi':i=ds.length:=by simp at a;omega
 subst hi';rw[zl jo,zl jo];simp only[Nat.sub_self,h1,List.getElem_cons_zero];exact hd.same keep
theorem iD{w:World}{base base' k n:Nat}{T:TypeId}{v:Value}{xs:List Value}(h:w.ownsRow base T k v n xs)(hb:base'≤base):w.ownsRow base' T k v n xs:=
 ⟨h.1,h.2.elim .inl (fun⟨g,cap,cur,hv,hg,r⟩=>.inr ⟨g,cap,cur,hv,zY hb hg,r⟩)⟩
theorem DcS.mono{w:World}{S S':Nat→Prop}{d:Dc}{v:List Value}(h:DcS w S d v)(hS:∀b,S b→S' b):DcS w S' d v:=h.same (fun b hb=>⟨hS b hb,rfl⟩)
theorem DOwn.mono{w:World}{base base':Nat}{v:Value}{ds:List Dc}(h:DOwn w base v ds)(hb:base'≤base):DOwn w base' v ds:=by
 obtain⟨vss,h1,h2,h3⟩:=h.ex;exact⟨vss,h1,iD h2 hb,fun i a b=>(h3 i a b).mono (fun b hS=>⟨zY hb hS.1,hS.2⟩)⟩
theorem DOwn.read{w:World}{base:Nat}{v:Value}{ds:List Dc}(h:DOwn w base v ds):∃A c,v=.slice A ds.length c∧DocsS w (fun b=>base≤b∧b<w.heap.size) (Fd w base) A ds.length ds∧ds.length≤c∧(A=none→c=0):=by
 obtain⟨vss,h1,h2,h3⟩:=h.ex;obtain⟨A,c,rfl,_,hc,hn,_⟩:=aP h2;exact⟨A,c,rfl,⟨rfl,vss,h1,(ReadsS.of_own h2).mono (fun b hb=>⟨hb.1,hb.2.1⟩),fun i a b=>h3 i a b⟩,hc,hn⟩
def mkD(seq:Int)(l:List Evn):List Dc:=l.mapIdx fun i e=>⟨seq+i,e.1,e.2⟩
theorem kD(seq:Int)(l:List Evn):(mkD seq l).length=l.length:=by simp[mkD]
theorem vE(seq:Int)(l:List Evn)(e:Evn):mkD seq (l ++ [e])=mkD seq l ++ [⟨seq+l.length,e.1,e.2⟩]:=by simp[mkD,List.mapIdx_append]
theorem vF(seq:Int)(l:List Evn)(k:Nat)(h:k<l.length):mkD seq (l.take (k+1))=mkD seq (l.take k) ++ [⟨seq+(k:Nat),l[k].1,l[k].2⟩]:=by
 rw[zL h,vE];congr 4;rw[zK];omega
end Ev
end Go.Proofs.YtmomjpolkkbhnaaGreat
