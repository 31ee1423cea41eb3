/- event.Size, loggiaref10.Check, Size: the walks. -/
import Derived.Deep.RegionHeld3
import Derived.Deep.RegionLaw
import Derived.Laws.ResultCell
import Derived.Laws.BitsAllLaws
import Derived.Test.YtmomjpolkkbhnaaGreatQModelRunsRow7
import Derived.Test.YtmomjpolkkbhnaaGreatQModelRunsRow14
set_option linter.unusedSectionVars false
set_option linter.unusedSimpArgs false
set_option linter.unusedVariables false
set_option maxRecDepth 20000
set_option maxHeartbeats 100000000
open Go.Proofs.Tryz
namespace Go.Proofs.YtmomjpolkkbhnaaGreat
namespace Ev
open Go.RowKit Ut Tk Qy
theorem JD{B:Nat}(w:World)(n:Nat):Below B w (w.drewN n):=⟨rfl,rfl,rfl,zG _,fun _ _=>rfl⟩
theorem Cn(fs:List Fl)(k:Nat)(h:k<fs.length):szF (fs.take (k+1))=szF (fs.take k)+(fs[k].1.size+fs[k].2.size):=by
 rw[zL h,Ir]
theorem JE(t:Int)(F:Option Addr)(fn fc:Nat)(fs:List Fl)(w:World)(h:FlAt w w.heap.size F fn fc fs)(hok:fM fs=0) :
  Calls prog 94 #[.agg #[.int .i64 t,.slice F fn fc]] w fun e w'=>e=.returned (.int .i64 (szE fs))∧zWW w w':=by
 have I:=h.len;have J:fs.length≤fn:=jo;have E:fn≤fs.length:=jo;have z:=h.cap;have q:=qK hok;have Fin:Hid ((szE fs:Int)=((16+szF (fs.take fs.length):Nat):Int)):=zh (by rw[List.take_length];rfl);unfold szE at q;have u:=fun k=>Aq fs k
 have y:fn≤16:=by have:=(mQ hok).1;omega
 have H:=zh h;have u:=zh u;have j:Hid (zWW w (w.alloc (.cells #[.int .i64 t,.slice F fn fc] 46))):=zh (zRR _);clear I h hok;generalize szE fs=r at *;go_enter func94,ntmps94;go_wp2;go_loopw [3,9] (fun n i wr=>∃k:Nat,k≤fs.length∧i=.int .i64 (k:Nat)∧n=.int .i64 ((16+szF (fs.take k):Nat):Int)∧Hid (zWW w wr)) (fun _ i _=>fs.length-(intOf i).toNat)
 case atStart=>exact⟨0,zS _,rfl,rfl,j⟩
 clear j;obtain⟨k,N,rfl,rfl,l⟩:=hrel;by_cases d:k<fs.length
 ·have m:(k:Int)<(fn:Int):=jo;obtain⟨b,o,rfl,D,G,L⟩:=(H.out.keep (w':=wr) (fun b o A=>l.out.cell (p:=⟨b,o,none⟩) A)).at_ d;have a:=Cn fs k d;have g:=u.out (k+1);rw[a]at g;have c:Hid (szF (fs.take (k+1))=szF (fs.take k)+(fs[k].1.size+fs[k].2.size)):=zh a;clear a;generalize v:fs[k]=f at *;clear v;obtain⟨B,C⟩:=f;simp only at G L g c;generalize x:szF (fs.take k)=M at *;have s:Hid (zWW w (wr.alloc (.cells #[.string B,.string C] 85))):=zh (l.out.alloc l.out.size _);clear x;go_wp2;go_roundw
  case rel=>exact⟨k+1,jo,ju,by rw[c.out];go_num,s⟩
  simp[intOf];omega
 have m:¬(k:Int)<(fn:Int):=jo;have e:k=fs.length:=jo;have Fin2:Hid ((r:Int)=((16+szF (fs.take k):Nat):Int)):=zh (by rw[e];exact Fin.out);clear Fin e;go_wp2;go_ret;exact⟨by rw[Fin2.out];rfl,l.out⟩
theorem FO(t:Int)(F:Option Addr)(fn fc:Nat)(fs:List Fl)(w:World)(h:FlAt w w.heap.size F fn fc fs) :
  Calls prog 145 #[.agg #[.int .i64 t,.slice F fn fc]] w fun e w'=>e=.returned (.int .i64 (fM fs))∧zWW w w':=by
 have S:=h.len;have T:fs.length≤fn:=jo;have P:fn≤fs.length:=jo;have J:=h.cap;have I:=h.few;have Fin:Hid (fM fs=if 16<fs.length then 3 else kY fs):=rfl;have l:zWW w (w.alloc (.cells #[.int .i64 t,.slice F fn fc] 46)):=zRR _;have s:=h.grow l;have G:=(Blk.new w 46 #[.int .i64 t,.slice F fn fc]);have H:=zh (And.intro s (And.intro G l));clear S h s G l;generalize fM fs=r at *;by_cases d:16<fs.length
 ·have q:(16:Int)<(fn:Int):=jo;go_enter func145,ntmps145;go_wp2;go_ret;exact⟨by rw[Fin.out,zI d];rfl,H.out.2.2⟩
 have q:¬(16:Int)<(fn:Int):=jo;have g:Hid (r=kY (fs.drop 0)):=zh (by rw[Fin.out,zH d,List.drop_zero]);clear Fin d;go_enter func145,ntmps145;go_wp2;generalize w.alloc (.cells #[.int .i64 t,.slice F fn fc] 46)=O at *;go_loopw [3] (fun i wr=>∃k:Nat,k≤fs.length∧i=.int .i64 (k:Nat)∧Hid (r=kY (fs.drop k))∧Hid (zWW O wr)) (fun i _=>fs.length-(intOf i).toNat)
 case atStart=>exact⟨0,zS _,rfl,g,zh (zy _ _)⟩
 clear g;obtain⟨k,X,rfl,C,v⟩:=hrel;have U:=(H.out.2.1.below v.out H.out.2.1.lt).cell 1;simp only[zA,zB,zC]at U;have m:Hid (zWW w wr):=zh (H.out.2.2.trans (v.out.mono H.out.2.2.size));by_cases j:k<fs.length
 ·have B:(k:Int)<(fn:Int):=jo;obtain⟨b,o,rfl,N,R,W⟩:=(H.out.1.grow v.out).at_ j;have p:=H.out.1.sz _ (za j);have a:Hid (r=if isN fs[k].1.data.toList=false then 100 else if 4096<fs[k].2.size then 2 else kY (fs.drop (k+1))):=zh (by rw[C.out,Bj _ _ j];rfl);clear C;generalize E:fs[k]=f at *;clear E;obtain⟨y,z⟩:=f;simp only at R W p a;obtain⟨A,V⟩:=p;have c:=xh y wr A;by_cases n:isN y.data.toList=false
  ·rw[n]at c;go_wp2_with fail;refine c.mono ?_;rintro e M ⟨rfl,rfl⟩;go_wp2;go_ret;exact⟨by rw[a.out,zI n];rfl,m.out⟩
  have u:isN y.data.toList=true:=by simpa using n
  rw[u]at c;by_cases L:4096<z.size
  ·have x:(4096:Int)<(z.size:Int):=jo;go_wp2_with fail;refine c.mono ?_;rintro e M ⟨rfl,rfl⟩;go_wp2;go_ret;exact⟨by rw[a.out,zH n,zI L];rfl,m.out⟩
  have x:¬(4096:Int)<(z.size:Int):=jo;have D:Hid (r=kY (fs.drop (k+1))):=zh (by rw[a.out,zH n,zH L]);clear a n u;go_wp2_with fail;refine c.mono ?_;rintro e M ⟨rfl,rfl⟩;go_wp2;go_roundw
  case rel=>exact⟨k+1,jo,ju,D,v⟩
  simp[intOf];omega
 have B:¬(k:Int)<(fn:Int):=jo;go_wp2;go_ret;exact⟨by rw[C.out,List.drop_eq_nil_of_le jo];rfl,m.out⟩
theorem Gi(t:Int)(F:Option Addr)(fn fc:Nat)(fs:List Fl)(w:World)(h:FlAt w w.heap.size F fn fc fs)(hok:fM fs=0) :
  Calls prog 146 #[.agg #[.int .i64 t,.slice F fn fc]] w fun e w'=>e=.returned (.int .i64 (szE fs))∧zWW w w':=by
 have P:=h.len;have S:fs.length≤fn:=jo;have O:fn≤fs.length:=jo;have G:=h.cap;have u:=qK hok;have Fin:Hid ((szE fs:Int)=((16+szF (fs.take fs.length):Nat):Int)):=zh (by rw[List.take_length];rfl);unfold szE at u;have x:=fun k=>Aq fs k
 have C:fn≤16:=by have:=(mQ hok).1;omega
 have x:=zh x;have c:zWW w (w.alloc (.cells #[.int .i64 t,.slice F fn fc] 46)):=zRR _;have g:=h.grow c;have A:=(Blk.new w 46 #[.int .i64 t,.slice F fn fc]);have H:=zh (And.intro g (And.intro A c));clear P h hok g A c;generalize szE fs=r at *;go_enter func146,ntmps146;go_wp2;generalize w.alloc (.cells #[.int .i64 t,.slice F fn fc] 46)=D at *;go_loopw [3,4] (fun n i wr=>∃k:Nat,k≤fs.length∧i=.int .i64 (k:Nat)∧n=.int .i64 ((16+szF (fs.take k):Nat):Int)∧Hid (zWW D wr)) (fun _ i _=>fs.length-(intOf i).toNat)
 case atStart=>exact⟨0,zS _,rfl,rfl,zh (zy _ _)⟩
 obtain⟨k,T,rfl,rfl,l⟩:=hrel;have I:=(H.out.2.1.below l.out H.out.2.1.lt).cell 1;simp only[zA,zB,zC]at I;by_cases j:k<fs.length
 ·have s:(k:Int)<(fn:Int):=jo;have L:(0:Int)≤(k:Int):=jo;obtain⟨b,o,rfl,N,E,J⟩:=(H.out.1.grow l.out).at_ j;have a:=Cn fs k j;have m:=x.out (k+1);rw[a]at m;have d:Hid (szF (fs.take (k+1))=szF (fs.take k)+(fs[k].1.size+fs[k].2.size)):=zh a;clear a;generalize y:fs[k]=f at *;clear y;obtain⟨p,B⟩:=f;simp only at E J m d;generalize z:szF (fs.take k)=q at *;clear z;have R:IntKind.i64.wrap (16+(q:Int)+(p.size:Int))=16+(q:Int)+(p.size:Int):=by rw[IntKind.wrap_i64];omega
  have M:IntKind.i64.wrap (16+(q:Int)+(p.size:Int)+(B.size:Int))=16+(q:Int)+(p.size:Int)+(B.size:Int):=by rw[IntKind.wrap_i64];omega
  go_wp2;go_quiet (fail);clear R M;have v:Hid (zWW D (wr.drewN nq)):=zh (l.out.trans (JD wr nq));clear l I E J;generalize wr.drewN nq=U at *;go_wp2;go_roundw
  case rel=>exact⟨k+1,jo,ju,by rw[d.out];go_num,v⟩
  simp[intOf];omega
 have s:¬(k:Int)<(fn:Int):=jo;have e:k=fs.length:=jo;have Fin2:Hid ((r:Int)=((16+szF (fs.take k):Nat):Int)):=zh (by rw[e];exact Fin.out);clear Fin e;go_wp2;go_ret;exact⟨by rw[Fin2.out];rfl,H.out.2.2.trans (l.out.mono H.out.2.2.size)⟩
end Ev

namespace Ev
open Go.RowKit Ut Tk Qy
def EvV(w:World)(B:Nat)(e:Evn)(v:List Value):Prop:=∃F fn fc,v=[.int .i64 e.1,.slice F fn fc]∧FlAt w B F fn fc e.2
theorem EvV.len{w:World}{B:Nat}{e:Evn}{v:List Value}(h:EvV w B e v):v.length=2:=by obtain⟨F,b,a,rfl,_⟩:=h;rfl
structure EvsAt (w:World) (B:Nat) (A:Option Addr) (n c:Nat) (l:List Evn):Prop where
 ln:l.length=n
 few:n≤4398046511104
 cap:n≤c
 ex:∃vss:List (List Value),vss.length=n∧Reads w B 2 A n vss.flatten∧∀i (h:i<l.length) (h':i<vss.length),EvV w B l[i] vss[i]
theorem EvsAt.keep{w w':World}{B n c:Nat}{A:Option Addr}{l:List Evn}(h:EvsAt w B A n c l)(hk:∀b o,b<B→w'.cell? ⟨b,o,none⟩=w.cell? ⟨b,o,none⟩):EvsAt w' B A n c l:=by
 obtain⟨d,k,j,f⟩:=h.ex;exact⟨h.ln,h.few,h.cap,d,k,j.keep hk,fun i a b=>by obtain⟨F,p,m,e,g⟩:=f i a b;exact⟨F,p,m,e,g.keep hk⟩⟩
theorem EvsAt.more{w:World}{B B' n c:Nat}{A:Option Addr}{l:List Evn}(h:EvsAt w B A n c l)(hB:B≤B'):EvsAt w B' A n c l:=by
 obtain⟨d,k,j,f⟩:=h.ex;exact⟨h.ln,h.few,h.cap,d,k,j.more hB,fun i a b=>by obtain⟨F,o,m,e,g⟩:=f i a b;exact⟨F,o,m,e,g.more hB⟩⟩
theorem EvsAt.grow{w w':World}{n c:Nat}{A:Option Addr}{l:List Evn}(h:EvsAt w w.heap.size A n c l)(hb:zWW w w'):EvsAt w' w'.heap.size A n c l:=(h.keep fun _ _ a=>hb.cell a).more hb.size
theorem EvsAt.at_{w:World}{B n c:Nat}{A:Option Addr}{l:List Evn}(h:EvsAt w B A n c l){i:Nat}(hi:i<l.length) :
  ∃b o F fn fc,A=some ⟨b,o,none⟩∧b<B∧w.cell? ⟨b,o+i*2,none⟩=some (.int .i64 l[i].1)∧w.cell? ⟨b,o+i*2+1,none⟩=some (.slice F fn fc)∧FlAt w B F fn fc l[i].2:=by
 obtain⟨d,C,s,f⟩:=h.ex;have D:=h.ln;have a:i<d.length:=jo
 have k:∀v∈d,v.length=2:=fun v z=>by
  obtain⟨j,y,rfl⟩:=zu.1 z;exact(f j jo y).len
 obtain⟨F,fn,fc,e,g⟩:=f i hi a;obtain⟨b,o,x,u,p⟩:=s.2 jo;have q:=iM k i 0 a jo;have m:=iM k i 1 a jo;rw[e]at q m;have t:=p _ _ q;have r:=p _ _ m;rw[←Nat.add_assoc]at r;exact⟨b,o,F,fn,fc,x,u,t,r,g⟩
theorem Co(l:List Evn)(k:Nat)(h:k<l.length):szL (l.take (k+1))=szL (l.take k)+szE l[k].2:=by
 rw[zL h,Iu]
theorem Da{l:List Evn}{k:Nat}(h:∀e∈l.take k,fM e.2=0)(hk:k<l.length)(h2:fM l[k].2=0):∀e∈l.take (k+1),fM e.2=0:=fun e a=>by
 rw[zL hk,List.mem_append,List.mem_singleton]at a;rcases a with a|rfl
 ·exact h e a
 exact h2
theorem Ay{seq:Int}{l:List Evn}(h0:l≠[])(h1:¬64<l.length)(h:∀e∈l.take l.length,fM e.2=0):gQ seq l=if 65536<szL l then 2 else if seq<1∨1099511627776-(l.length:Int)+1<seq then 5 else 0:=by
 rw[List.take_length]at h;unfold gQ;rw[zH h0,zH h1,zI (Km h)]
theorem Az{seq:Int}{l:List Evn}{k:Nat}(h0:l≠[])(h1:¬64<l.length)(hk:k<l.length)(h:∀e∈l.take k,fM e.2=0)(hne:fM l[k].2≠0):gQ seq l=fM l[k].2:=by
 have e:=Kn hk h hne;unfold gQ;rw[zH h0,zH h1,zH (by rw[e];exact hne),e]
theorem xN(seq:Int)(A:Option Addr)(n c:Nat)(l:List Evn)(w:World)(h:EvsAt w w.heap.size A n c l) :
  Calls prog 63 #[.agg #[.int .i64 seq,.slice A n c]] w fun e w'=>e=.returned (.int .i64 (gQ seq l))∧zWW w w':=by
 have hl:=h.ln;have az:l.length≤n:=jo;have T:n≤l.length:=jo;have an:=h.cap;have am:=h.few;have D:zWW w (w.alloc (.cells #[.int .i64 seq,.slice A n c] 111)):=zRR _;have L:=h.grow D;have hX:=(Blk.new w 111 #[.int .i64 seq,.slice A n c]);have H:=zh (And.intro L (And.intro hX D));clear hl h L hX D;obtain⟨r,hr⟩:∃r,r=gQ seq l:=⟨_,rfl⟩;rw[←hr];have Fin:=zh hr;clear hr;by_cases m:n=0
 ·subst m;have G:l=[]:=List.length_eq_zero_iff.1 jo;have g:Hid (r=1):=zh (by rw[Fin.out,G];rfl);clear G Fin;go_enter func63,ntmps63;go_wp2;go_ret;exact⟨by rw[g.out];rfl,H.out.2.2⟩
 have ax:((n:Int)=0)=False:=eq_false jo;have ar:((n:Int)==0)=false:=jm;have N0:Hid (l≠[]):=zh (fun e=>by rw[e]at T;simp at T;omega);by_cases aq:64<n
 ·have ak:(64:Int)<(n:Int):=jo;have g:Hid (r=3):=zh (by rw[Fin.out];unfold gQ;rw[zH N0.out,zI jo]);clear Fin m;go_enter func63,ntmps63;go_wp2;go_ret;exact⟨by rw[g.out];rfl,H.out.2.2⟩
 have ak:¬(64:Int)<(n:Int):=jo;have N1:Hid (¬64<l.length):=zh jo;clear m;go_enter func63,ntmps63;go_wp2;generalize w.alloc (.cells #[.int .i64 seq,.slice A n c] 111)=W at *;go_loopw [4,20] (fun s i wr=>∃k:Nat,k≤l.length∧i=.int .i64 (k:Nat)∧s=.int .i64 (szL (l.take k):Nat)∧Hid (∀e∈l.take k,fM e.2=0)∧Hid (zWW W wr)) (fun _ i _=>l.length-(intOf i).toNat)
 case atStart=>exact⟨0,zS _,rfl,rfl,zh jz,zh (zy _ _)⟩
 obtain⟨k,hk,rfl,rfl,I,E⟩:=hrel;have d0:=(H.out.2.1.below E.out H.out.2.1.lt).cell 0;have d1:=(H.out.2.1.below E.out H.out.2.1.lt).cell 1;simp only[zA,zB,zC]at d0 d1;have j:Hid (zWW w wr):=zh (H.out.2.2.trans (E.out.mono H.out.2.2.size));have ag:=Ci I.out;have P:(l.take k).length≤k:=List.length_take_le _ _;have ad:szL (l.take k)≤4480000:=jo;clear ag P;by_cases f:k<l.length
 ·have Y:(k:Int)<(n:Int):=jo;have av:(0:Int)≤(k:Int):=jo;have hG:=H.out.1.grow E.out;obtain⟨b,o,F,B,x,rfl,au,ca,cf,O⟩:=hG.at_ f;have N:=Blk.new wr 46 #[.int .i64 l[k].1,.slice F B x];have M:zWW W (wr.alloc (.cells #[.int .i64 l[k].1,.slice F B x] 46)):=E.out.alloc E.out.size _;have z:=O.grow ((zy _ wr).alloc (zG _) (.cells #[.int .i64 l[k].1,.slice F B x] 46));have a:=zh (And.intro M N);clear M N;have CC:=zh (fun(wx:World) (hx:FlAt wx wx.heap.size F B x l[k].2)=>Gh l[k].1 F B x l[k].2 wx hx);have V:=zh (fun(wx:World) (hx:FlAt wx wx.heap.size F B x l[k].2)=>JE l[k].1 F B x l[k].2 wx hx);have J:=zh (Co l k f);have BAD:Hid (fM l[k].2≠0→r=fM l[k].2):=zh (fun ab=>by rw[Fin.out];exact Az N0.out N1.out f I.out ab);have OKN:Hid (fM l[k].2=0→∀e∈l.take (k+1),fM e.2=0):=zh (fun h=>Da I.out f h);have t:Hid (fM l[k].2=0→szE l[k].2≤70000):=zh qK;have q:=zh z;clear hG O I;generalize ai:l[k]=ev at *;clear ai;obtain⟨ta,fs⟩:=ev;simp only at ca CC V J BAD OKN t;clear z;simp only at a q;go_wp2_with fail;generalize wr.alloc (.cells #[.int .i64 ta,.slice F B x] 46)=w1 at *;have G:=a.out.2.cell 0;have X:=a.out.2.cell 1;simp only[zA,zB,zC]at G X;clear ca cf d0 d1;go_wp2_with fail;refine(CC.out _ q.out).mono ?_;rintro e w2 ⟨rfl,v⟩;have C:Hid (zWW W w2):=zh (a.out.1.trans (v.mono a.out.1.size));have d:=zh (q.out.grow v);have p:=a.out.2.below v a.out.2.lt;have G:=p.cell 0;have X:=p.cell 1;simp only[zA,zB,zC]at G X;clear p a;have y:Hid (zWW w w2):=zh (H.out.2.2.trans (C.out.mono H.out.2.2.size));clear v E j CC q;by_cases u:fM fs=0
  ·have R:=zh (OKN.out u);have aw:=t.out u;have HC:=zh u;rw[u];clear u BAD OKN t;have aj:((0:Int) != 0)=false:=rfl;go_wp2_with fail;refine(V.out _ d.out HC.out).mono ?_;rintro e w3 ⟨rfl,S⟩;have Z:Hid (zWW W w3):=zt C S;generalize al:szL (l.take k)=zk at *;generalize af:szE fs=ze at *;clear al af S C y V d;go_wp2;go_roundw
   case rel=>exact⟨k+1,jo,ju,by rw[J.out];go_num,R,Z⟩
   simp[intOf];omega
  have BAD2:=zh (BAD.out u);generalize ah:fM fs=cc at *;have aj:(cc != 0)=true:=by simpa using u
  have ap:(cc=0)=False:=eq_false u;clear ah u BAD OKN t V d;go_wp2;go_ret;exact⟨by rw[BAD2.out];rfl,y.out⟩
 have Y:¬(k:Int)<(n:Int):=jo;obtain rfl:k=l.length:=jo;have g:Hid (r=if 65536<szL l then 2 else if seq<1∨1099511627776-(l.length:Int)+1<seq then 5 else 0):=zh (by rw[Fin.out];exact Ay N0.out N1.out I.out);rw[List.take_length]at ad ⊢;clear Fin I f hk;by_cases m:65536<szL l
 ·have ac:(65536:Int)<(szL l:Int):=jo;go_wp2;go_ret;exact⟨by rw[g.out,zI m];rfl,j.out⟩
 have ac:¬(65536:Int)<(szL l:Int):=jo;have ao:(n:Int)≤64:=jo;by_cases aa:seq<1
 ·have U:Hid (r=5):=zh (by rw[g.out,zH m,zI (.inl aa)]);clear g m;go_wp2;go_ret;exact⟨by rw[U.out];rfl,j.out⟩
 by_cases ay:1099511627776-(n:Int)+1<seq
 ·have U:Hid (r=5):=zh (by rw[g.out,zH m,zI (.inr jo)]);have ae:1099511627776-((n:Int)-1)<seq:=jo;clear g m;go_wp2;go_ret;exact⟨by rw[U.out];rfl,j.out⟩
 have U:Hid (r=0):=zh (by rw[g.out,zH m,zH jo]);have ae:¬1099511627776-((n:Int)-1)<seq:=jo;clear g m;go_wp2;go_ret;exact⟨by rw[U.out];rfl,j.out⟩
theorem D5(seq:Int)(A:Option Addr)(n c:Nat)(l:List Evn)(w:World)(h:EvsAt w w.heap.size A n c l) :
  Calls prog 117 #[.agg #[.int .i64 seq,.slice A n c]] w fun e w'=>e=.returned (.int .i64 (gQ seq l))∧zWW w w':=by
 have hl:=h.ln;have au:l.length≤n:=jo;have J:n≤l.length:=jo;have ak:=h.cap;have ai:=h.few;have x:zWW w (w.alloc (.cells #[.int .i64 seq,.slice A n c] 111)):=zRR _;have M:=h.grow x;have hX:=(Blk.new w 111 #[.int .i64 seq,.slice A n c]);have H:=zh (And.intro M (And.intro hX x));clear hl h M hX x;obtain⟨r,hr⟩:∃r,r=gQ seq l:=⟨_,rfl⟩;rw[←hr];have Fin:=zh hr;clear hr;by_cases a:n=0
 ·subst a;have e0:l=[]:=List.length_eq_zero_iff.1 jo;have d:Hid (r=1):=zh (by rw[Fin.out,e0];rfl);clear e0 Fin;go_enter func117,ntmps117;go_wp2;go_ret;exact⟨by rw[d.out];rfl,H.out.2.2⟩
 have av:((n:Int)=0)=False:=eq_false jo;have ao:((n:Int)==0)=false:=jm;have N0:Hid (l≠[]):=zh (fun e=>by rw[e]at J;simp at J;omega);by_cases al:64<n
 ·have ae:(64:Int)<(n:Int):=jo;have d:Hid (r=3):=zh (by rw[Fin.out];unfold gQ;rw[zH N0.out,zI jo]);clear Fin a;go_enter func117,ntmps117;go_wp2;go_ret;exact⟨by rw[d.out];rfl,H.out.2.2⟩
 have ae:¬(64:Int)<(n:Int):=jo;have N1:Hid (¬64<l.length):=zh jo;clear a;go_enter func117,ntmps117;go_wp2;generalize w.alloc (.cells #[.int .i64 seq,.slice A n c] 111)=T at *;go_loopw [3,4] (fun s i wr=>∃k:Nat,k≤l.length∧i=.int .i64 (k:Nat)∧s=.int .i64 (szL (l.take k):Nat)∧Hid (∀e∈l.take k,fM e.2=0)∧Hid (zWW T wr)) (fun _ i _=>l.length-(intOf i).toNat)
 case atStart=>exact⟨0,zS _,rfl,rfl,zh jz,zh (zy _ _)⟩
 obtain⟨k,hk,rfl,rfl,B,z⟩:=hrel;have V:=(H.out.2.1.below z.out H.out.2.1.lt).cell 0;have d1:=(H.out.2.1.below z.out H.out.2.1.lt).cell 1;simp only[zA,zB,zC]at V d1;have q:Hid (zWW w wr):=zh (H.out.2.2.trans (z.out.mono H.out.2.2.size));have ag:=Ci B.out;have C:(l.take k).length≤k:=List.length_take_le _ _;have S:szL (l.take k)≤4480000:=jo;clear ag C;by_cases g:k<l.length
 ·have W:(k:Int)<(n:Int):=jo;have an:(0:Int)≤(k:Int):=jo;have hG:=H.out.1.grow z.out;obtain⟨b,o,F,R,O,rfl,G,ca,cf,N⟩:=hG.at_ g;have CC:=zh (fun(wx:World) (hx:FlAt wx wx.heap.size F R O l[k].2)=>FO l[k].1 F R O l[k].2 wx hx);have P:=zh (fun(wx:World) (hx:FlAt wx wx.heap.size F R O l[k].2)=>Gi l[k].1 F R O l[k].2 wx hx);have D:=zh (Co l k g);have BAD:Hid (fM l[k].2≠0→r=fM l[k].2):=zh (fun Y=>by rw[Fin.out];exact Az N0.out N1.out g B.out Y);have OKN:Hid (fM l[k].2=0→∀e∈l.take (k+1),fM e.2=0):=zh (fun h=>Da B.out g h);have u:Hid (fM l[k].2=0→szE l[k].2≤70000):=zh qK;have y:=zh N;clear hG N B;generalize Z:l[k]=ev at *;clear Z;obtain⟨ta,fs⟩:=ev;simp only at ca CC P D BAD OKN u;go_wp2_with fail;refine(CC.out _ y.out).mono ?_;rintro e w2 ⟨rfl,j⟩;have m:Hid (zWW T w2):=zt z j;have f:=zh (y.out.grow j);have V:=(H.out.2.1.below m.out H.out.2.1.lt).cell 0;have d1:=(H.out.2.1.below m.out H.out.2.1.lt).cell 1;simp only[zA,zB,zC]at V d1;have ap:=(j.cell (p:=⟨b,o+k*2,none⟩) G).trans ca;have aw:=(j.cell (p:=⟨b,o+k*2+1,none⟩) G).trans cf;clear ca cf;have v:Hid (zWW w w2):=zh (H.out.2.2.trans (m.out.mono H.out.2.2.size));clear j z q CC y;by_cases t:fM fs=0
  ·have E:=zh (OKN.out t);have aq:=u.out t;have HC:=zh t;rw[t];clear t BAD OKN u;have aa:((0:Int) != 0)=false:=rfl;go_wp2_with fail;refine(P.out _ f.out HC.out).mono ?_;rintro e w3 ⟨rfl,I⟩;have X:Hid (zWW T w3):=zt m I;generalize af:szL (l.take k)=zk at *;generalize ac:szE fs=ze at *;clear af ac I m v P f;go_wp2;go_roundw
   case rel=>exact⟨k+1,jo,ju,by rw[D.out];go_num,E,X⟩
   simp[intOf];omega
  have BAD2:=zh (BAD.out t);generalize U:fM fs=cc at *;have aa:(cc != 0)=true:=by simpa using t
  have am:(cc=0)=False:=eq_false t;clear U t BAD OKN u P f;go_wp2;go_ret;exact⟨by rw[BAD2.out];rfl,v.out⟩
 have W:¬(k:Int)<(n:Int):=jo;obtain rfl:k=l.length:=jo;have d:Hid (r=if 65536<szL l then 2 else if seq<1∨1099511627776-(l.length:Int)+1<seq then 5 else 0):=zh (by rw[Fin.out];exact Ay N0.out N1.out B.out);rw[List.take_length]at S ⊢;clear Fin B g hk;by_cases a:65536<szL l
 ·have ah:(65536:Int)<(szL l:Int):=jo;go_wp2;go_ret;exact⟨by rw[d.out,zI a];rfl,q.out⟩
 have ah:¬(65536:Int)<(szL l:Int):=jo;have aj:(n:Int)≤64:=jo;by_cases ad:seq<1
 ·have L:Hid (r=5):=zh (by rw[d.out,zH a,zI (.inl ad)]);clear d a;go_wp2;go_ret;exact⟨by rw[L.out];rfl,q.out⟩
 by_cases ar:1099511627776-(n:Int)+1<seq
 ·have L:Hid (r=5):=zh (by rw[d.out,zH a,zI (.inr jo)]);have ab:1099511627776-((n:Int)-1)<seq:=jo;clear d a;go_wp2;go_ret;exact⟨by rw[L.out];rfl,q.out⟩
 have L:Hid (r=0):=zh (by rw[d.out,zH a,zH jo]);have ab:¬1099511627776-((n:Int)-1)<seq:=jo;clear d a;go_wp2;go_ret;exact⟨by rw[L.out];rfl,q.out⟩
end Ev

namespace Ev
open Go.RowKit Ut Tk Qy Qp
structure Chg (O:Nat→Prop) (w w':World):Prop where
 os:w'.os=w.os
 tape:w'.tape=w.tape
 output:w'.output=w.output
 size:w.heap.size≤w'.heap.size
 block:∀k,k<w.heap.size→¬O k→w'.heap[k]?=w.heap[k]?
theorem Chg.refl(O:Nat→Prop)(w:World):Chg O w w:=⟨rfl,rfl,rfl,zG _,fun _ _ _=>rfl⟩
theorem Chg.trans{O O':Nat→Prop}{a b c:World}(h:Chg O a b)(k:Chg O' b c)(hO:∀x,O' x→O x∨a.heap.size≤x):Chg O a c:=
 ⟨k.os.trans h.os,k.tape.trans h.tape,k.output.trans h.output,zY h.size k.size,fun i e d=>(k.block i (zT e h.size) (fun f=>by
  rcases hO i f with g|g
  ·exact d g
  omega)).trans (h.block i e d)⟩
theorem Chg.mono{O O':Nat→Prop}{a b:World}(h:Chg O a b)(hO:∀x,x<a.heap.size→O x→O' x):Chg O' a b:=⟨h.os,h.tape,h.output,h.size,fun k c d=>h.block k c (fun e=>d (hO k c e))⟩
theorem Chg.of_below{O:Nat→Prop}{B:Nat}{a b:World}(h:Below B a b)(hO:∀k,B≤k→k<a.heap.size→O k):Chg O a b:=⟨h.os,h.tape,h.output,h.size,fun k e c=>h.block k (Nat.lt_of_not_le (fun d=>c (hO k d e)))⟩
theorem Chg.of_new{O:Nat→Prop}{a b:World}(h:zWW a b):Chg O a b:=Chg.of_below h (fun k c d=>by omega)
theorem Chg.of_grown{O:Nat→Prop}{a b:World}{row:Option Nat}(h:a.grownBy b row)(hO:∀k,row=some k→O k):Chg O a b:=⟨h.os,h.tape,h.output,h.size,fun k d c=>h.block k d (fun e=>c (hO k e.symm))⟩
theorem Chg.below{O:Nat→Prop}{B:Nat}{a b:World}(h:Chg O a b)(hB:B≤a.heap.size)(hO:∀k,O k→B≤k):Below B a b:=⟨h.os,h.tape,h.output,h.size,fun k d=>h.block k (zT d hB) (fun c=>by have:=hO k c;omega)⟩
theorem Chg.then_new{O:Nat→Prop}{a b c:World}(h:Chg O a b)(k:zWW b c):Chg O a c:=h.trans (O':=fun _=>False) (Chg.of_new k) (fun x d=>d.elim)
theorem Chg.alloc{O:Nat→Prop}{a b:World}(h:Chg O a b)(o:Obj):Chg O a (b.alloc o):=h.then_new (zRR _)
theorem Chg.cell{O:Nat→Prop}{a b:World}(h:Chg O a b){p:Addr}(hp:p.block<a.heap.size)(hn:¬O p.block):b.cell? p=a.cell? p:=vP (h.block _ hp hn)
def Tg(w:World)(T:TypeId)(b:Nat):Prop:=∃cs fr,w.heap[b]?=some (.cells cs T fr)
theorem Tg.lt{w:World}{T:TypeId}{b:Nat}(h:Tg w T b):b<w.heap.size:=by
 obtain⟨c,a,h⟩:=h;exact(Array.getElem?_eq_some_iff.1 h).1
theorem Tg.one{w:World}{T T':TypeId}{b:Nat}(h:Tg w T b)(h':Tg w T' b):T=T':=by
 obtain⟨e,d,h⟩:=h;obtain⟨c,a,h'⟩:=h';rw[h]at h';injection h' with h';injection h'
theorem Tg.same{w w':World}{T:TypeId}{b:Nat}(h:Tg w T b)(e:w'.heap[b]?=w.heap[b]?):Tg w' T b:=by
 obtain⟨c,a,h⟩:=h;exact⟨c,a,e.trans h⟩
theorem Tg.new{w w':World}{T:TypeId}{b:Nat}(h:Tg w T b)(hb:zWW w w'):Tg w' T b:=h.same (hb.block b h.lt)
theorem fO{w:World}{base k n g:Nat}{T:TypeId}{v:Value}{xs:List Value}(h:w.ownsRow base T k v n xs)(hv:v.ownBlock=some g):Tg w T g:=by
 rcases h.2 with⟨rfl,_⟩|⟨d,b,a,rfl,_,c,_⟩
 ·cases hv
 injection hv with hv;subst hv;exact⟨a,_,c⟩
theorem AJ{w w':World}{b:Nat}(e:w'.heap[b]?=w.heap[b]?)(o:Nat):w'.cell? ⟨b,o,none⟩=w.cell? ⟨b,o,none⟩:=vP e
theorem _root_.Go.Proofs.YtmomjpolkkbhnaaGreat.Qp.ReadsS.same{w w':World}{S S':Nat→Prop}{k n:Nat}{A:Option Addr}{xs:List Value}(h:ReadsS w S k A n xs)(hS:∀b,S b→S' b∧w'.heap[b]?=w.heap[b]?):ReadsS w' S' k A n xs:=
 (h.keep (fun b o a=>AJ (hS b a).2 o)).mono (fun b a=>(hS b a).1)
structure DcS (w:World) (S:Nat→Prop) (d:Dc) (v:List Value):Prop where
 ex:∃F fn fc,v=[.int .i64 d.seq,.int .i64 d.at_,.slice F fn fc]∧ReadsS w S 2 F fn (fJ d.fs)∧d.fs.length=fn∧fn≤8796093021952∧fn≤fc∧(F=none→fc=0)
theorem DcS.len{w:World}{S:Nat→Prop}{d:Dc}{v:List Value}(h:DcS w S d v):v.length=3:=by obtain⟨F,b,a,rfl,_⟩:=h.ex;rfl
theorem DcS.same{w w':World}{S S':Nat→Prop}{d:Dc}{v:List Value}(h:DcS w S d v)(hS:∀b,S b→S' b∧w'.heap[b]?=w.heap[b]?):DcS w' S' d v:=by
 obtain⟨F,g,c,e,a,f⟩:=h.ex;exact⟨F,g,c,e,a.same hS,f⟩
structure DocsS (w:World) (R S:Nat→Prop) (A:Option Addr) (n:Nat) (ds:List Dc):Prop where
 ln:ds.length=n
 ex:∃vss:List (List Value),vss.length=n∧ReadsS w R 3 A n vss.flatten∧∀i (h:i<ds.length) (h':i<vss.length),DcS w S ds[i] vss[i]
theorem DocsS.same{w w':World}{R R' S S':Nat→Prop}{A:Option Addr}{n:Nat}{ds:List Dc}(h:DocsS w R S A n ds)(hR:∀b,R b→R' b∧w'.heap[b]?=w.heap[b]?)(hS:∀b,S b→S' b∧w'.heap[b]?=w.heap[b]?):DocsS w' R' S' A n ds:=by
 obtain⟨c,e,f,d⟩:=h.ex;exact⟨h.ln,c,e,f.same hR,fun i a b=>(d i a b).same hS⟩
theorem DocsS.nil{w:World}{R S:Nat→Prop}{A:Option Addr}:DocsS w R S A 0 []:=⟨rfl,[],rfl,ReadsS.none_,fun i h=>absurd h (by simp)⟩
theorem DocsS.at_{w:World}{R S:Nat→Prop}{A:Option Addr}{n:Nat}{ds:List Dc}(h:DocsS w R S A n ds){i:Nat}(hi:i<ds.length) :
  ∃b o F fn fc,A=some ⟨b,o,none⟩∧R b∧w.cell? ⟨b,o+i*3,none⟩=some (.int .i64 ds[i].seq)∧w.cell? ⟨b,o+i*3+1,none⟩=some (.int .i64 ds[i].at_)∧w.cell? ⟨b,o+i*3+2,none⟩=some (.slice F fn fc) ∧
   ReadsS w S 2 F fn (fJ ds[i].fs)∧ds[i].fs.length=fn∧fn≤8796093021952∧fn≤fc∧(F=none→fc=0):=by
 obtain⟨c,G,z,g⟩:=h.ex;have E:=h.ln;have a:i<c.length:=jo
 have d:∀v∈c,v.length=3:=fun v y=>by
  obtain⟨j,t,rfl⟩:=zu.1 y;exact(g j jo t).len
 obtain⟨F,fn,fc,e,r,B,x,u⟩:=(g i hi a).ex;obtain⟨b,o,s,D,f⟩:=z.2 jo;have q:=iM d i 0 a jo;have l:=iM d i 1 a jo;have m:=iM d i 2 a jo;rw[e]at q l m;have C:=f _ _ q;have p:=f _ _ l;have k:=f _ _ m;rw[←Nat.add_assoc]at p k;exact⟨b,o,F,fn,fc,s,D,C,p,k,r,B,x,u⟩
theorem lU:(prog.info? 48).map (fun i=>(i.zero,i.size,i.bytes))=some (some (.agg #[.int .i64 0,.int .i64 0,.slice none 0 0]),3,40):=by kernel_rfl
theorem uS:(prog.info? 85).map (fun i=>(i.zero,i.size,i.bytes))=some (some (.agg #[.string ByteArray.empty,.string ByteArray.empty]),2,32):=by kernel_rfl
theorem qU(w:World)(h o:Nat)(u:Value):w.grownBy (w.setCell ⟨h,o,none⟩ u) (some h):=
 ⟨rfl,rfl,rfl,by simp[World.setCell],fun k _ a=>vN _ _ _ _ (fun e=>a (by rw[e]))⟩
theorem fP{w:World}{base:Nat}{e:TypeId}{size n:Nat}{v:Value}{xs:List Value}(h:w.ownsRow base e size v n xs) :
  ∃A c,v=.slice A n c∧Reads w w.heap.size size A n xs∧n≤c∧(A=none→c=0)∧(0<n→∃g,A=some ⟨g,0,none⟩∧∃cur,w.heap[g]?=some (.cells cur e (0,0))):=by
 obtain⟨A,c,rfl,b⟩:=fT h;refine⟨A,c,rfl,b,?_⟩;rcases h.2 with⟨a,j⟩|⟨g,f,cur,a,_,i,d,_⟩
 ·injection a with _ _ hc;exact⟨jo,fun _=>hc,fun h=>jo⟩
 injection a with hA _ hc;exact⟨jo,fun e=>(by rw[hA]at e;cases e),fun _=>⟨g,hA,cur,i⟩⟩
theorem JF(fs:List (ByteArray × ByteArray)):∀u∈fJ fs,u.oneCell'=true:=by
 intro u b;unfold fJ at b;obtain⟨f,_,a⟩:=List.mem_flatMap.1 b;simp at a;rcases a with rfl|rfl<;>rfl
def Kw(w:World)(fs:List (ByteArray × ByteArray))(e:Ending)(w':World):Prop:=∃v,e=.returned v∧w'.ownsRow w.heap.size 85 2 v fs.length (fJ fs)∧zWW w w'
theorem yP(F:Option Addr)(fn fc:Nat)(fs:List (ByteArray × ByteArray))(w:World)(hF:Reads w w.heap.size 2 F fn (fJ fs))(hl:fs.length=fn)(hn:fn≤1048576)(hnil:F=none→fc=0) :
  Calls prog 91 #[.slice F fn fc] w (Kw w fs):=by
 obtain⟨A,m,n,r,k⟩:=info_parts uS;by_cases t:F=none
 ·subst t;obtain rfl:fc=0:=hnil rfl
  have s:fn=0:=by
   by_cases h:0<fn
   ·obtain⟨b,o,e,_⟩:=hF.2 h
    cases e
   omega
  subst s;have q:fs=[]:=List.length_eq_zero_iff.1 hl;subst q;have l:=fun W:World=>Lib.run_eql_slice_nil (P:=prog) W _ _ none 0 0 0 0 underlying44
  clear hF hl hn hnil;go_enter func91,ntmps91;go_wp2;go_ret;exact⟨_,rfl,vO _ _ _ _,zy _ _⟩
 obtain⟨a,rfl⟩:=Option.ne_none_iff_exists'.1 t;have l:=fun W:World=>Lib.run_eql_slice_nil (P:=prog) W _ _ (some a) fn fc 0 0 underlying44
 have x:=zh hF;have i:=zh hl;clear hF hl t hnil;go_enter func91,ntmps91;go_wp2_with (at_builtin;refine vJ _ rfl _ _ 44 rfl w.heap.size 85 A _ 2 32 underlying44 m n r k rfl jd (.slice (some ⟨w.heap.size,0,none⟩) 0 0) 0 [] rfl ?hown a fn fc (fJ fs) rfl ?hl ?c1 ?c2 ?c3 ?c4 ?c5 ?_)
 case hown=>
  have h:=World.ownsRow_made (base:=w.heap.size) (e:=85) (size:=2) w #[] 0 jz jx rfl
  simpa using h
 case hl=>rw[qm,i.out]
 case c1=>
  intro j u d
  have y:j<fn*2:=by
   have:=(List.getElem?_eq_some_iff.1 d).1;rw[qm,i.out]at this;exact this
  obtain⟨b,o,e,D,B⟩:=x.out.2 jo;injection e with e;subst e;have g:(⟨b,o,none⟩:Addr).add j=⟨b,o+j,none⟩:=by unfold Addr.add;split<;>simp_all
  rw[g];have v:=B j u d
  first
   | exact v
   | exact((zRR _:zWW w _).cell (p:=⟨b,o+j,none⟩) D).trans v
 case c2=>exact JF fs
 case c3=>unfold maxLen;omega
 case c4=>omega
 case c5=>simp
 intro G C hown c _
 have f:zWW w C:=(zRR _:zWW w _).grown c jz (fun j d=>by
  injection d with d;have z:w.heap.size=j:=d
  omega)
 obtain⟨E,H,rfl,_⟩:=fT hown;have Hown:=zh hown;have Hbx:=zh f;clear hown c f;go_wp2;go_ret;exact⟨_,rfl,by rw[i.out];simpa using Hown.out,Hbx.out⟩
abbrev Fd(w:World)(base:Nat)(b:Nat):Prop:=base≤b∧Tg w 85 b
structure DOwn (w:World) (base:Nat) (v:Value) (ds:List Dc):Prop where
 ex:∃vss:List (List Value),vss.length=ds.length∧w.ownsRow base 48 3 v ds.length vss.flatten∧∀i (h:i<ds.length) (h':i<vss.length),DcS w (Fd w base) ds[i] vss[i]
theorem DOwn.start(w:World)(base:Nat):DOwn w base (.slice none 0 0) []:=⟨[],rfl,vO _ _ _ _,fun i h=>absurd h (by simp)⟩
theorem DOwn.below{w w':World}{base:Nat}{v:Value}{ds:List Dc}(h:DOwn w base v ds)(hb:zWW w w'):DOwn w' base v ds:=by
 obtain⟨d,g,f,e⟩:=h.ex;refine⟨d,g,f.kept (fH hb none) (by cases hv:v.ownBlock<;>simp),fun i a b=>(e i a b).same (fun b c=>⟨⟨c.1,c.2.new hb⟩,hb.block b c.2.lt⟩)⟩
theorem DOwn.put{w w5:World}{base:Nat}{v v':Value}{ds:List Dc}{d:Dc}{u:List Value}{xs:List Value}(hx:∃vss:List (List Value),vss.length=ds.length∧w.ownsRow base 48 3 v ds.length vss.flatten∧(∀i (h:i<ds.length) (h':i<vss.length),DcS w (Fd w base) ds[i] vss[i])∧xs=vss.flatten)
  (hp:w5.ownsRow base 48 3 v' (ds.length+1) (xs++u)) (hg:w.grownBy w5 v.ownBlock) (hd:DcS w (Fd w base) d u):DOwn w5 base v' (ds ++ [d]):=by
 obtain⟨vss,j,m,l,rfl⟩:=hx
 have c:∀b,Fd w base b→Fd w5 base b∧w5.heap[b]?=w.heap[b]?:=fun b f=>by
  have e:w5.heap[b]?=w.heap[b]?:=hg.block b f.2.lt (fun e=>by
   have:=(fO m e.symm).one f.2
   exact absurd this jd)
  exact⟨⟨f.1,f.2.same e⟩,e⟩
 refine⟨vss ++ [u],by simp[j],?_,fun i a b=>?_⟩
 ·rw[List.flatten_append,zJ]
  simpa using hp
 by_cases k:i<ds.length
 ·rw[zl k,zl jo];exact(l i k jo).same c
 have g:i=ds.length:=by simp at a;omega
 subst g;rw[zn jo,zn jo];simp only[Nat.sub_self,j,List.getElem_cons_zero];exact hd.same c
theorem lH{w:World}{base base' k n:Nat}{T:TypeId}{v:Value}{xs:List Value}(h:w.ownsRow base T k v n xs)(hb:base'≤base):w.ownsRow base' T k v n xs:=
 ⟨h.1,h.2.elim .inl (fun⟨g,cap,cur,hv,hg,r⟩=>.inr ⟨g,cap,cur,hv,zY hb hg,r⟩)⟩
theorem DcS.mono{w:World}{S S':Nat→Prop}{d:Dc}{v:List Value}(h:DcS w S d v)(hS:∀b,S b→S' b):DcS w S' d v:=h.same (fun b a=>⟨hS b a,rfl⟩)
theorem DOwn.mono{w:World}{base base':Nat}{v:Value}{ds:List Dc}(h:DOwn w base v ds)(hb:base'≤base):DOwn w base' v ds:=by
 obtain⟨c,g,f,e⟩:=h.ex;exact⟨c,g,lH f hb,fun i a b=>(e i a b).mono (fun b d=>⟨zY hb d.1,d.2⟩)⟩
theorem DOwn.read{w:World}{base:Nat}{v:Value}{ds:List Dc}(h:DOwn w base v ds):∃A c,v=.slice A ds.length c∧DocsS w (fun b=>base≤b∧b<w.heap.size) (Fd w base) A ds.length ds∧ds.length≤c∧(A=none→c=0):=by
 obtain⟨d,j,e,g⟩:=h.ex;obtain⟨A,c,rfl,_,k,l,_⟩:=fP e;exact⟨A,c,rfl,⟨rfl,d,j,(ReadsS.of_own e).mono (fun b f=>⟨f.1,f.2.1⟩),fun i a b=>g i a b⟩,k,l⟩
def mkD(seq:Int)(l:List Evn):List Dc:=l.mapIdx fun i e=>⟨seq+i,e.1,e.2⟩
theorem ol(seq:Int)(l:List Evn):(mkD seq l).length=l.length:=by simp[mkD]
theorem BA(seq:Int)(l:List Evn)(e:Evn):mkD seq (l ++ [e])=mkD seq l ++ [⟨seq+l.length,e.1,e.2⟩]:=by simp[mkD,List.mapIdx_append]
theorem BB(seq:Int)(l:List Evn)(k:Nat)(h:k<l.length):mkD seq (l.take (k+1))=mkD seq (l.take k) ++ [⟨seq+(k:Nat),l[k].1,l[k].2⟩]:=by
 rw[zL h,BA];congr 4;rw[zK];omega
end Ev

namespace Ev
open Go.RowKit Ut Tk Qy Qp
def pz(w:World)(ds:List Dc)(e:Ending)(w':World):Prop:=∃v,e=.returned v∧DOwn w' w.heap.size v ds∧zWW w w'
theorem qy(seq:Int)(A:Option Addr)(n c:Nat)(l:List Evn)(w:World)(h:EvsAt w w.heap.size A n c l)(hok:gQ seq l=0) :
  Calls prog 64 #[.agg #[.int .i64 seq,.slice A n c]] w (pz w (mkD seq l)):=by
 obtain⟨i0,ar,au,av,an⟩:=info_parts lU;have hl:=h.ln;have aM:l.length≤n:=jo;have aL:n≤l.length:=jo;have az:=h.cap;have f:=rF hok;have aB:n≤64:=by have:=f.2.1;omega
 have aI:1≤seq:=f.2.2.2.2.1;have aG:seq≤1099511627777:=by have:=f.2.2.2.2.2;omega
 have R:zWW w (w.alloc (.cells #[.int .i64 seq,.slice A n c] 111)):=zRR _;have P:=h.grow R;have hX:=(Blk.new w 111 #[.int .i64 seq,.slice A n c]);have c1:=xN seq A n c l _ P;rw[hok]at c1;have C1:=zh c1;have OK:=zh f.2.2.1;have H:=zh (And.intro P (And.intro hX R));clear hl h P hX R c1 hok f;go_enter func64,ntmps64;go_wp2_with fail;refine C1.out.mono ?_;rintro e u ⟨rfl,I⟩;have O:Hid (EvsAt u u.heap.size A n c l∧Blk u w.heap.size 111 #[.int .i64 seq,.slice A n c]∧zWW w u):=zh ⟨H.out.1.grow I,H.out.2.1.below I H.out.2.1.lt,H.out.2.2.trans (I.mono H.out.2.2.size)⟩;have e1:=O.out.2.1.cell 1;simp only[zA,zB,zC]at e1;clear I H C1;go_wp2_with fail;clear e1;go_loopw [3,12] (fun v i wr=>∃k:Nat,k≤l.length∧i=.int .i64 (k:Nat)∧Hid (DOwn wr u.heap.size v (mkD seq (l.take k)))∧Hid (zWW u wr)) (fun _ i _=>l.length-(intOf i).toNat)
 case atStart=>exact⟨0,zS _,rfl,zh (DOwn.start _ _),zh (zy _ _)⟩
 obtain⟨k,hk,rfl,hO,U⟩:=hrel;have s:=O.out.2.1.below U.out O.out.2.1.lt;have d0:=s.cell 0;have d1:=s.cell 1;simp only[zA,zB,zC]at d0 d1;have B:=zh s;clear s;have aw:Hid (zWW w wr):=zh (O.out.2.2.trans (U.out.mono O.out.2.2.size));by_cases C:k<l.length
 ·have aj:(k:Int)<(n:Int):=jo;have aH:(0:Int)≤(k:Int):=jo;have hG:=O.out.1.grow U.out;obtain⟨b,o,F,X,fc,rfl,aE,ca,cf,r⟩:=hG.at_ C;have T:=BB seq l k C;have Y:=(mQ (OK.out _ (za C))).1;have N:(mkD seq (l.take k)).length=k:=by rw[ol,zK];omega
  have E:zWW wr (wr.alloc (.cells #[.int .i64 l[k].1,.slice F X fc] 46)):=(zy _ wr).alloc (zG _) _;have hx:=Blk.new wr 46 #[.int .i64 l[k].1,.slice F X fc];have c2:=yP F X fc l[k].2 _ (r.grow E).rd r.len (by have:=r.len;omega) r.nl;have af:Hid (l[k].2.length=X):=zh r.len;have aA:X≤16:=by have:=r.len;omega
  generalize ay:l[k]=ev at *;clear ay hG r;obtain⟨y,d⟩:=ev;simp only at ca c2 T af hx E;have D:=zh (And.intro hx E);have ao:=zh T;have ad:=zh N;have C2:=zh c2;clear hx E T c2 Y N;go_wp2_with fail;generalize aq:wr.alloc (.cells #[.int .i64 y,.slice F X fc] 46)=w1 at *;clear aq ca cf;refine C2.out.mono ?_;rintro e L ⟨v3,rfl,a,G⟩;obtain⟨g,m,rfl,al,M,J,ak⟩:=fP a;have h7:=D.out.1.below G D.out.1.lt;have V:=h7.set_ 1 (.slice g d.length m);have am:=h7.cell 1;have aF:=h7.frozen 1;have aa:=V.cell 0;have ac:=V.cell 1;simp at am aa ac;have ae:=B.out.below (D.out.2) B.out.lt |>.below G (by have:=B.out.lt;have:=D.out.2.size;omega)
  have t0:(L.setCell ⟨wr.heap.size,1,none⟩ (.slice g d.length m)).cell? ⟨w.heap.size,0,none⟩=some (.int .i64 seq):=by
   have e:=ae.cell 0;simp only[zA,zB]at e;have C:=B.out.lt;exact(vP (vN _ _ _ _ (by show w.heap.size≠wr.heap.size;omega))).trans e
  have aJ:wr.heap.size<L.heap.size:=by have:=h7.lt;exact this
  have q:(((L.setCell ⟨wr.heap.size,1,none⟩ (.slice g d.length m)).alloc (.cells #[.int .i64 (seq+(k:Int)),.int .i64 y,.slice g d.length m] 48))).ownsRow w1.heap.size 85 2 (.slice g d.length m) d.length (fJ d):=
   (a.kept (qU L wr.heap.size 1 _) (.inr (fun e=>by have:=(a.lt _ e).1;have:=D.out.1.lt;omega))).alloc _
  have z:zWW wr ((L.setCell ⟨wr.heap.size,1,none⟩ (.slice g d.length m)).alloc (.cells #[.int .i64 (seq+(k:Int)),.int .i64 y,.slice g d.length m] 48)):=((D.out.2.trans (G.mono D.out.2.size)).setCell (p:=⟨wr.heap.size,1,none⟩) (zG _) _).alloc (by have:=D.out.2.size;have:=G.size;simp;omega) _;have ab:=hO.out.below z;obtain⟨ah,g1,g2,g3⟩:=ab.ex
  have ag:DcS ((L.setCell ⟨wr.heap.size,1,none⟩ (.slice g d.length m)).alloc (.cells #[.int .i64 (seq+(k:Int)),.int .i64 y,.slice g d.length m] 48)) (Fd _ u.heap.size) ⟨seq+(k:Int),y,d⟩ [.int .i64 (seq+(k:Int)),.int .i64 y,.slice g d.length m]:=
   ⟨g,_,m,rfl,(ReadsS.of_own q).mono (fun b hb=>⟨by have:=hb.1;have:=U.out.size;have:=D.out.2.size;omega,fO q hb.2.2⟩),rfl,by have:=af.out;omega,M,J⟩
  have Put:Hid (∀Z W,W.ownsRow u.heap.size 48 3 Z (k+1) (ah.flatten ++ [.int .i64 (seq+(k:Int)),.int .i64 y,.slice g d.length m])→_→DOwn W u.heap.size Z (mkD seq (l.take (k+1)))):=zh (fun Z W p1 p2=>by
   rw[ao.out]
   exact DOwn.put ⟨ah,g1,g2,g3,rfl⟩ (by rw[ad.out];exact p1) p2 ag)
  rw[ad.out]at g2;have G2:=zh g2;have aD:=z.size;have ap:=zh z;have aC:u.heap.size≤wr.heap.size:=U.out.size;have aK:0≤seq+(k:Int):=jo;clear q z ab g1 g2 g3 ag a al M J ak h7 V ae C2 d0 d1;go_wp2_with (at_builtin;refine vJ _ rfl _ _ 26 rfl u.heap.size 48 i0 _ 3 40 underlying26 ar au av an rfl jd _ _ _ rfl G2.out ⟨L.heap.size,0,none⟩ 1 1 [.int .i64 (seq+(k:Int)),.int .i64 y,.slice g d.length m] rfl rfl ?d1 ?d2 ?d3 ?d4 ?d5 ?_)
  case d1=>exact vH (cs:=#[.int .i64 (seq+(k:Int)),.int .i64 y,.slice g d.length m]) (t:=48) (fr:=(0,0)) (by have:=vK (L.setCell ⟨wr.heap.size,1,none⟩ (.slice g d.length m)) (.cells #[.int .i64 (seq+(k:Int)),.int .i64 y,.slice g d.length m] 48);simpa using this)
  case d2=>simp[Value.oneCell']
  case d3=>unfold maxLen;omega
  case d4=>omega
  case d5=>first|omega|(simp;omega)
  intro Z W x S _;have ai:=zh (Put.out Z W x S);have ax:Hid (zWW u W):=zh ((U.out.trans (ap.out.mono U.out.size)).grown S jo (fun j hj=>(G2.out.lt j hj).1));clear x S;go_wp2;go_roundw
  case rel=>exact⟨k+1,jo,ju,ai,ax⟩
  simp[intOf];omega
 obtain rfl:k=l.length:=jo;have aj:¬(l.length:Int)<(n:Int):=jo;rw[List.take_length]at hO;go_wp2;go_ret;exact⟨_,rfl,hO.out.mono O.out.2.2.size,aw.out⟩
end Ev

namespace Md
open Go.RowKit Ut Tk Qy Qp Ev
structure Cf where
 size:Int
 age:Int
 retain:Int
 batch:Int
 buckets:Int
 bt:Bool
 bb:Bool
def Cf.v(c:Cf):Value:=.agg #[.int .i64 c.size,.int .i64 c.age,.int .i64 c.retain,.int .i64 c.batch,.int .i64 c.buckets,.bool c.bt,.bool c.bb]
def okC(c:Cf):Prop:=1≤c.size∧c.size≤262144∧1≤c.age∧0≤c.retain∧1≤c.batch∧c.batch≤64∧1≤c.buckets∧c.buckets≤10000
instance (c:Cf):Decidable (okC c):=by unfold okC;infer_instance
def I64(n:Int):Prop:=-9223372036854775808≤n∧n≤9223372036854775807
structure M where
 c:Cf
 ds:List Dc
 floor:Int
 now:Int
 acked:Int
def mdC(m:M)(v:Value):Array Value:=#[.int .i64 m.c.size,.int .i64 m.c.age,.int .i64 m.c.retain,.int .i64 m.c.batch,.int .i64 m.c.buckets,.bool m.c.bt,.bool m.c.bb,v,.int .i64 m.floor,.int .i64 m.now,.int .i64 m.acked,.bool true]
structure Ok (m:M):Prop where
 c:okC m.c
 ret:m.c.retain≤9223372036854775807
 doc:∀i (h:i<m.ds.length),fM m.ds[i].fs=0∧m.ds[i].seq=(i:Int)+1∧I64 m.ds[i].at_
 fl:I64 m.floor
 nw:I64 m.now
 ak:0≤m.acked∧m.acked≤(m.ds.length:Nat)
structure At (w:World) (n0 X K:Nat) (v:Value) (m:M):Prop where
 blk:Blk w X 81 (mdC m v)
 own:DOwn w n0 v m.ds
 n0:n0≤w.heap.size
 ok:Ok m
 few:m.ds.length≤K
theorem At.below{w w':World}{n0 X K:Nat}{v:Value}{m:M}(h:At w n0 X K v m)(hb:zWW w w'):At w' n0 X K v m:=⟨h.blk.below hb h.blk.lt,h.own.below hb,zY h.n0 hb.size,h.ok,h.few⟩
theorem At.more{w:World}{n0 X K K':Nat}{v:Value}{m:M}(h:At w n0 X K v m)(hK:K≤K'):At w n0 X K' v m:=⟨h.blk,h.own,h.n0,h.ok,zY h.few hK⟩
abbrev rsC(e seq fl:Int)(d b c:Value)(ev nx nw ak:Int):Array Value:=#[.int .i64 e,.int .i64 seq,.int .i64 fl,d,b,c,.int .i64 ev,.int .i64 nx,.int .i64 nw,.int .i64 ak]
abbrev nil:Value:=.slice none 0 0
abbrev bad(e:Int):Value:=.agg (rsC e 0 0 nil nil nil 0 0 0 0)
theorem iy(e:Int)(w:World):Calls prog 27 #[.int .i64 e] w fun r w'=>r=.returned (bad e)∧zWW w w':=by
 have b:zWW w (w.alloc (.cells (rsC e 0 0 nil nil nil 0 0 0 0) 42)):=zRR _;have a:=Blk.new w 42 (rsC e 0 0 nil nil nil 0 0 0 0);have H:=zh (And.intro a b);clear a b;go_enter func27,ntmps27;go_wp2_with fail;refine zw (fA rfl rfl (zv _ w.heap.size 42 42 (rsC e 0 0 nil nil nil 0 0 0 0) (0,0) _ H.out.1 underlying42 rfl jk)) rfl ⟨rfl,H.out.2⟩
def iO(n:Int):Bool:=decide (1≤n)&&decide (n≤10000)
theorem xj(n:Int)(w:World):Calls prog 66 #[.int .i64 n] w fun r w'=>r=.returned (.bool (iO n))∧w=w':=by
 have e:iO n=(decide (1≤n)&&decide (n≤10000)):=rfl;rw[e];clear e;by_cases a:1≤n
 ·by_cases b:n≤10000
  ·rw[zO a,zO b];go_enter func66,ntmps66;go_wp2;go_ret;exact⟨rfl,rfl⟩
  rw[zO a,zN b];go_enter func66,ntmps66;go_wp2;go_ret;exact⟨rfl,rfl⟩
 rw[zN a];go_enter func66,ntmps66;go_wp2;go_ret;exact⟨rfl,rfl⟩
theorem qz{w:World}{X:Nat}{m:M}{v:Value}(h:Blk w X 81 (mdC m v)):Calls prog 26 #[.pointer (some ⟨X,0,none⟩)] w fun e w'=>e=.returned (.bool false)∧w=w':=by
 have a:=h.cell 11;simp only[mdC,zA,zB,zC]at a;clear h;go_enter func26,ntmps26;go_wp2;go_ret;exact⟨rfl,rfl⟩
theorem gz{w w':World}{base k n:Nat}{T:TypeId}{v:Value}{xs:List Value}(h:w.ownsRow base T k v n xs)(hk:∀b,v.ownBlock=some b→w'.heap[b]?=w.heap[b]?):w'.ownsRow base T k v n xs:=
 ⟨h.1,h.2.elim .inl (fun⟨g,cap,cur,hv,hg,hh,r⟩=>.inr ⟨g,cap,cur,hv,hg,(hk g (by rw[hv];rfl)).trans hh,r⟩)⟩
theorem ow{w:World}{T:TypeId}{b:Nat}{cs:Array Value}(h:Blk w b T cs):Tg w T b:=⟨_,_,h⟩
def Ky(w:World)(d:Dc)(e:Ending)(w':World):Prop:=∃A c,e=.returned (.agg #[.int .i64 d.seq,.int .i64 d.at_,.slice A d.fs.length c])∧d.fs.length≤c∧(A=none→c=0)∧w'.ownsRow w.heap.size 85 2 (.slice A d.fs.length c) d.fs.length (fJ d.fs)∧zWW w w'
theorem yQ(d:Dc)(Fa:Option Addr)(fn fc:Nat)(w:World)(hF:Reads w w.heap.size 2 Fa fn (fJ d.fs))(hl:d.fs.length=fn)(hn:fn≤1048576)(hnil:Fa=none→fc=0) :
  Calls prog 57 #[.agg #[.int .i64 d.seq,.int .i64 d.at_,.slice Fa fn fc]] w (Ky w d):=by
 subst hl;obtain⟨X,P,R,W,M⟩:=info_parts Ev.lU;have l:zWW w ((w.alloc (.cells #[.int .i64 d.seq,.int .i64 d.at_,.slice Fa d.fs.length fc] 48)).alloc (.cells #[.int .i64 0,.int .i64 0,.slice none 0 0] 48)):=(zRR _).alloc jz _;have B:=(Blk.new w 48 #[.int .i64 d.seq,.int .i64 d.at_,.slice Fa d.fs.length fc]).alloc (.cells #[.int .i64 0,.int .i64 0,.slice none 0 0] 48);have C:=Blk.new (w.alloc (.cells #[.int .i64 d.seq,.int .i64 d.at_,.slice Fa d.fs.length fc] 48)) 48 #[.int .i64 0,.int .i64 0,.slice none 0 0];rw[vM]at C;have J:=yP Fa d.fs.length fc d.fs _ ((hF.below l).more l.size) rfl hn hnil;have I:=zh J;have H:=zh (And.intro B (And.intro C l));have G:=B.cell 2;simp only[zA,zB,zC]at G;clear J B C l;go_enter func57,ntmps57;go_wp2_with fail;refine I.out.mono ?_;rintro e r ⟨Y,rfl,c,n⟩;obtain⟨g,h,rfl,E,s,o,D⟩:=Ev.fP c;have f:=H.out.1.below n H.out.1.lt;have j:=H.out.2.1.below n H.out.2.1.lt;have x:=f.cell 0;have z:=f.cell 1;have v:=f.cell 2;have A:=f.frozen 2;have y:=j.cell 0;simp only[zA,zB,zC]at x z v y;clear G;go_upto_region 2 with fail;have k:=f.set_ 2 (.slice g d.fs.length h);have a:Blk (r.setCell ⟨w.heap.size,2,none⟩ (.slice g d.fs.length h)) (w.heap.size+1) 48 #[.int .i64 0,.int .i64 0,.slice none 0 0]:=j.far (by show w.heap.size+1≠w.heap.size;omega) _;have i:(r.setCell ⟨w.heap.size,2,none⟩ (.slice g d.fs.length h)).ownsRow w.heap.size 85 2 (.slice g d.fs.length h) d.fs.length (fJ d.fs):=lH (c.kept (Ev.qU r w.heap.size 2 _) (.inr (fun e=>by have:=(c.lt _ e).1;have:=H.out.1.lt;omega))) H.out.2.2.size;have u:zWW w (r.setCell ⟨w.heap.size,2,none⟩ (.slice g d.fs.length h)):=(H.out.2.2.trans (n.mono H.out.2.2.size)).setCell (p:=⟨w.heap.size,2,none⟩) (zG _) _;generalize (r.setCell ⟨w.heap.size,2,none⟩ (.slice g d.fs.length h))=S at *;clear x z v A y;have x:=k.cell 0;have z:=k.cell 1;have v:=k.cell 2;have y:=a.cell 0;have U:=a.cell 1;have V:=a.cell 2;have T:=a.frozen 0;have O:=a.frozen 1;have L:=a.frozen 2;simp at x z v y U V;have q:=zh a;have t:=zh i;have F:=zh u;clear k a i u f j c n E D I H hF;go_wp2_with fail
 have N:Blk (((S.setCell ⟨w.heap.size+1,0,none⟩ (.int .i64 d.seq)).setCell ⟨w.heap.size+1,1,none⟩ (.int .i64 d.at_)).setCell ⟨w.heap.size+1,2,none⟩ (.slice g d.fs.length h)) (w.heap.size+1) 48 #[.int .i64 d.seq,.int .i64 d.at_,.slice g d.fs.length h]:=by
  have:=((q.out.set_ 0 (.int .i64 d.seq)).set_ 1 (.int .i64 d.at_)).set_ 2 (.slice g d.fs.length h)
  simpa using this
 refine zw (fA rfl rfl (zv _ (w.heap.size+1) 48 48 #[.int .i64 d.seq,.int .i64 d.at_,.slice g d.fs.length h] (0,0) _ N underlying48 rfl jk)) rfl ⟨g,h,rfl,s,o,gz t.out (fun b n=>?_),((F.out.setCell (p:=⟨w.heap.size+1,0,none⟩) (zZ _) _).setCell (p:=⟨w.heap.size+1,1,none⟩) (zZ _) _).setCell (p:=⟨w.heap.size+1,2,none⟩) (zZ _) _⟩
 have m:b≠w.heap.size+1:=fun e=>by
  subst e;exact absurd ((fO t.out n).one (ow q.out)) jd
 exact((vN _ ⟨w.heap.size+1,2,none⟩ _ b m).trans (vN _ ⟨w.heap.size+1,1,none⟩ _ b m)).trans (vN _ ⟨w.heap.size+1,0,none⟩ _ b m)
end Md

namespace Ss
open Go.Shelf Go.RowKit Go.Lib Go.Sort
variable {α:Type} [Inhabited α] {enc:α→List Value} {cf:α→α→Int} {tag:α→Nat}
set_option maxRecDepth 1000000 in
theorem EC(hW:SWO (ltOf cf))(k:Nat)(hk2:k=3)(g:Nat)(cb:Array Value)(blk off cap a b:Nat)(d0 d:Array α)(w0 w:World)(eg:∀args w,(callFunc g args).run prog w=.ok (.enter g args) w)(hC:CmpLays prog g cb enc k cf blk off d0.size w0)
  (R:RowK enc k w0 blk off d0) (hs:d.size=d0.size) (S:SWK enc k w0 blk off d w) (hab:a≤b) (hb:b≤d.size) (hsz:d.size<1099511627776) (hT:∀x y,a≤x→x<y→y<b→tag d[x]!<tag d[y]!) :
  Calls prog 153 #[.slice (some ⟨blk,off,none⟩) d.size cap,.int .i64 a,.int .i64 b,.func (.func g) #[] cb] w (nO enc cf tag k w0 blk off d a b):=by
 have zE:∀w,(Go.sizeOf 48).run prog w=.ok k w:=by rw[hk2];exact Tryz.sizeOf48
 have aa:prog.follows Departure.mixedOrders=true:=jk;have S0:Aside (SWK enc k w0 blk off d w):=S;have HC:Aside _:=hC;have H:=zh hs;have HT:=zh hT;clear S hk2 hs hC hT;go_enter func153,ntmps153;go_wp2;go_loopw [8] (fun vi wr=>∃(i:Nat) (l:Array α),a<i∧(i≤b∨i≤a+1)∧vi=.int .i64 (i:Nat)∧Aside (SWK enc k w0 blk off l wr)∧l.size=d.size∧Hid (PermIn a b d l)∧Hid (Srt cf tag l a i)∧Hid (∀x,i≤x→l[x]! = d[x]!)) (fun vi _=>b-(intOf vi).toNat)
 case atStart=>exact⟨a+1,d,jo,jo,ju,S0,rfl,zh (permIn_refl _ _ _),zh (Srt.one _ (zG _)),zh (fun _ _=>rfl)⟩
 clear S0;obtain⟨i,l,al,aj,rfl,q,P,HP,HZ,HX⟩:=hrel;by_cases af:i<b
 ·have T:(i:Int)<(b:Int):=jo
  have TK:Hid (∀h,a≤h→h<i→tag l[h]!<tag l[i]!):=zh (fun h h1 h2=>by
   have e:=HX.out i (zG _);rw[e]
   exact permIn_all d l a i (fun z=>tag z<tag d[i]!) jo (Eg HP.out jo HX.out jo hb) (fun x p1 p2=>HT.out x i p1 p2 af) h h1 h2)
  go_wp2;go_loopw [9] (fun vj wr=>∃(j:Nat) (f:Array α),a≤j∧j≤i∧vj=.int .i64 (j:Nat)∧Aside (SWK enc k w0 blk off f wr)∧f.size=d.size∧Hid (PermIn a b d f)∧Hid (∀x,f[x]! = shR l i j x)∧Hid (∀h,j≤h→h<i→bef cf tag l[i]! l[h]!)) (fun vj _=>(intOf vj).toNat)
  case atStart=>exact⟨i,l,jo,zG _,rfl,q,P,HP,zh (fun x=>BF l i x),zh (fun h _ _=>jo)⟩
  clear q;obtain⟨j,f,ae,O,rfl,q,m,A,o,HG⟩:=hrel
  have OUT:Hid ((j≤a∨¬cf l[i]! l[j-1]!<0)→Srt cf tag f a (i+1)∧∀x,i+1≤x→f[x]! = d[x]!):=zh (fun ac=>⟨K4 hW ae O HZ.out TK.out o.out HG.out ac,fun x hx=>by
   rw[o.out];unfold shR;rw[zH jo,zH jo]
   exact HX.out x jo⟩)
  by_cases ak:a<j
  ·obtain⟨c,rfl⟩:∃c,j=c+1:=⟨j-1,jo⟩;have J:(a:Int)<(c:Int)+1:=jo;have ai:IntKind.i64.wrap (c:Int)=(c:Int):=by rw[IntKind.wrap_i64];omega
   have n0:(0:Int)≤(c:Int):=jo;have n1:(0:Int)≤(c:Int)+1:=jo;have n2:(c:Int)+1<(d.size:Int):=jo;have n3:(c:Int)<(d.size:Int):=jo;have n5:((c:Int)+1).toNat=c+1:=jo
   have Z:f[c+1]! = l[i]!:=by
    rw[o.out];unfold shR;rw[zH jo,zI rfl]
   have ep:f[c]! = l[c]!:=by
    rw[o.out];unfold shR;rw[zH jo,zH jo]
   have Y:Aside (∀n os,SWK enc k w0 blk off f (grow (wr.drewN n) os)):=fun n os=>q.out.grown n os
   have V:=fun I s=>q.out.ld R (m.trans H.out) prog (c+1) jo I s
   have X:=fun I s=>q.out.ld R (m.trans H.out) prog (c) jo I s
   have p:=fun I s=>q.out.cmp HC.out (m.trans H.out) f[c+1]! f[c]! I s
   rw[Z]at V;rw[ep]at X;rw[Z,ep]at p;have E:=zh (And.intro Z ep);clear Z ep;have OUT2:Hid (¬cf l[i]! l[c]!<0→Srt cf tag f a (i+1)∧∀x,i+1≤x→f[x]! = d[x]!):=zh (fun h=>OUT.out (.inr (by simpa using h)))
   have IN2:Hid (cf l[i]! l[c]!<0→∀h,c≤h→h<i→bef cf tag l[i]! l[h]!):=zh (fun hc h p1 p2=>by
    by_cases e:h=c
    ·rw[e];exact rT hc
    exact HG.out h jo p2)
   obtain⟨xp,B⟩:∃x,l[i]! = x:=⟨_,rfl⟩;obtain⟨xq,v⟩:∃x,l[c]! = x:=⟨_,rfl⟩;rw[B]at V;rw[v]at X;rw[B,v]at p;have u:Hid (l[i]! = xp∧l[c]! = xq):=zh ⟨B,v⟩;clear B v OUT HG q;by_cases G:cf xp xq<0
   ·have G2:Hid (∀h,c≤h→h<i→bef cf tag l[i]! l[h]!):=zh (IN2.out (by rw[u.out.1,u.out.2];exact G));clear OUT2 IN2;go_wp2_with fail
    go_quiet_grown (first|(go_at_fn g;refine Calls.grown_of (p _ _)))
    have t:Aside (SWK enc k w0 blk off f (grow (wr.drewN nq) osq)):=Y.out nq osq;generalize grow (wr.drewN nq) osq=W at t ⊢;clear V X p Y;have U:Aside (SWK enc k w0 blk off (swp f (c+1) (c)) ((W.drew.setCells blk (off+(c+1)*k) (enc f[c]!)).setCells blk (off+(c)*k) (enc f[c+1]!))):=t.out.swapped R (c+1) (c) jo jo;have D:=t.out.ld1 R (m.trans H.out) prog (c+1) jo;have C:=t.out.ld1 R (m.trans H.out) prog (c) jo;have F:=t.out.st1 R (m.trans H.out) prog (c+1) jo f[c]!;have r:=t.out.st2 R (m.trans H.out) prog (c+1) (c) jo jo f[c]! f[c+1]!;have N:(enc f[c+1]!).length=k:=R.hk _;have M:(enc f[c]!).length=k:=R.hk _;have ab:Hid (PermIn a b d (swp f (c+1) c)):=zh (permIn_trans _ _ _ _ _ A.out (swp_permIn f a b (c+1) c jo jo jo jo jo));have ag:Hid (∀y,(swp f (c+1) c)[y]! = shR l i c y):=zh (BG O jo jo o.out);generalize enc f[c+1]! = cI44 at U D r N;generalize enc f[c]! = cJ44 at U C F r M;clear t A o;go_wp2_with fail
    go_big_region_o
    clear D C F r;generalize (W.drew.setCells blk (off+(c+1)*k) cJ44).setCells blk (off+(c)*k) cI44=w2 at U ⊢;go_wp2;go_roundw
    case rel=>exact⟨c,swp f (c+1) c,jo,jo,by first|rfl|go_num|(congr 1;omega),U,by rw[size_swp];exact m,ab,ag,G2⟩
    first|(simp[intOf];done)|(simp[intOf];omega)
   have ah:decide (cf xp xq<0)=false:=zN G;have L:=zh (OUT2.out (by rw[u.out.1,u.out.2];exact G));clear OUT2 IN2;go_wp2_with fail
   go_quiet_grown (first|(go_at_fn g;refine Calls.grown_of (p _ _)))
   have t:Aside (SWK enc k w0 blk off f (grow (wr.drewN nq) osq)):=Y.out nq osq;generalize grow (wr.drewN nq) osq=W at t ⊢;clear V X p Y;go_wp2;go_roundw
   case rel=>exact⟨i+1,f,jo,jo,ju,t,m,A,zh L.out.1,zh L.out.2⟩
   simp[intOf];omega
  have J:decide ((j:Int) > (a:Int))=false:=zN jo;have ad:¬(a:Int)<(j:Int):=jo;have L:=zh (OUT.out (.inl jo))
  have SD:Aside (SWK enc k w0 blk off f wr.drew):=by
   have:=q.out.grown 1 #[]
   rwa[grow_empty]at this
  clear OUT q;go_wp2_with fail
  go_big_region_o
  generalize wr.drew=W at SD ⊢;go_wp2;go_roundw
  case rel=>exact⟨i+1,f,jo,jo,ju,SD,m,A,zh L.out.1,zh L.out.2⟩
  simp[intOf];omega
 have T:¬(i:Int)<(b:Int):=jo;have Fin:=zh (HZ.out.sub (zG _) (show b≤i by omega));go_wp2
 go_end0
 exact⟨rfl,l,q.out,P,HP.out,Fin.out⟩
end Ss

namespace Qy
open Go.RowKit Ut Tk
theorem Gs(TA:Option Addr)(n tc:Nat)(T:List (List UInt8))(WA:Option Addr)(m wc:Nat)(ws:List ByteArray)(k:Nat)(w:World)(hT:Reads w w.heap.size 2 TA n (iN (gm T)))(hn:T.length=n)(hn2:n≤1048576)
  (hW:Reads w w.heap.size 1 WA m (ws.map Value.string)) (hm:ws.length=m) (hm2:m≤8796093021952) (hk:k<n) :
  Calls prog 191 #[.slice TA n tc,.int .i64 (k:Int),.slice WA m wc] w fun e w'=>e=.returned (.bool (kR T ws k))∧zWW w w':=by
 have M:=zh hT;have HW:=zh hW;have l:=zh hn;have E:=zh hm;by_cases J:n-k<m
 ·have Fin:=zh (xX T ws k (by rw[hn,hm];exact J));have F:(n:Int)-(k:Int)<(m:Int):=jo;clear hT hW hn hm J;go_enter func191,ntmps191;go_wp2;go_ret;exact⟨by rw[Fin.out];rfl,zy _ _⟩
 have F:¬(n:Int)-(k:Int)<(m:Int):=jo;have W:m≤n-k:=jo;clear hT hW hn hm J;go_enter func191,ntmps191;go_wp2;go_loopw [7] (fun i wr=>∃j:Nat,j≤m∧i=.int .i64 j∧jh T ws k j=true∧zWW w wr) (fun i _=>m-(intOf i).toNat)
 case atStart=>exact⟨0,zS _,rfl,xQ _ _ _,zy _ _⟩
 obtain⟨j,hj,rfl,v,P⟩:=hrel;have h:=zh P;have Hst:=zh v;clear v P;by_cases s:j<m
 ·obtain⟨C,B,rfl,q,t,d⟩:=mR M.out l.out (k:=k+j) (by rw[l.out];omega);obtain⟨ab,Y,U,rfl,L,z⟩:=HW.out.at_map s;have V:=(h.out.cell (p:=⟨C,B+(k+j)*2,none⟩) q).trans t;have Z:=(h.out.cell (p:=⟨C,B+(k+j)*2+1,none⟩) q).trans d;have ad:=(h.out.cell (p:=⟨ab,Y+j,none⟩) L).trans z;have o:=xR T ws k j (by rw[l.out];omega) (by rw[E.out];omega);have u:=Bg (T[k+j]'(by rw[l.out];omega)) ws[j];rw[Hst.out,Bool.true_and,←u]at o;have Hss:=zh o;have X:(0:Int)≤(k:Int)+(j:Int):=jo;have ag:(k:Int)+(j:Int)<(n:Int):=jo;have ac:((k:Int)+(j:Int)).toNat=k+j:=jo;have H:IntKind.i64.wrap ((k:Int)+(j:Int))=(k:Int)+(j:Int):=IntWalk.i64_in _ jo;have R:(0:Int)≤(j:Int):=jo;have aa:(j:Int)<(m:Int):=jo;have Hno:Hid (jh T ws k (j+1)=false→kR T ws k=false):=zh (fun e=>xk T ws k (j+1) (by rw[E.out];omega) e);clear t d z o u
  have a:0<j→wr.cell? ⟨C,B+(k+j-1)*2+1,none⟩=some (.int .i64 ((k+j-1:Nat):Int)):=fun D=>by
   obtain⟨af,ae,g,O,_,d⟩:=mR M.out l.out (k:=k+j-1) (by rw[l.out];omega);injection g with g;injection g with g N;subst g N;exact(h.out.cell (p:=⟨C,B+(k+j-1)*2+1,none⟩) q).trans d
  generalize (str (T[k+j]'(by rw[l.out];omega)))=x at *;generalize ws[j]=y at *;by_cases f:(x.toList==y.toList)=true
  ·have r:(x.toList != y.toList)=false:=by rw[bne,f];rfl
   have c:Hid (jh T ws k (j+1)=true):=zh (by rw[Hss.out,f]);by_cases D:0<j
   ·have S:=a D;have g:((k+j-1:Nat):Int)=(k:Int)+(j:Int)-1:=jo;have N:((k:Int)+(j:Int)-1).toNat=k+j-1:=jo;have e3:IntKind.i64.wrap ((k:Int)+(j:Int)-1)=(k:Int)+(j:Int)-1:=IntWalk.i64_in _ jo;have e4:(0:Int)≤(k:Int)+(j:Int)-1:=jo;have e5:(k:Int)+(j:Int)-1<(n:Int):=jo;have e6:(((k:Int)+(j:Int)-1)==9223372036854775807)=false:=by rw[zM];omega
    have e7:IntKind.i64.wrap ((k:Int)+(j:Int)-1+1)=(k:Int)+(j:Int):=by rw[show (k:Int)+(j:Int)-1+1=(k:Int)+(j:Int)from by omega];exact H
    have G:decide (0<j)=true:=by simpa using D
    rw[g]at S;clear a g;go_wp2_with fail;go_quiet (fail);have Hbx:=zh (below_drewN h.out nq);go_wp2;go_roundw
    case rel=>exact⟨j+1,jo,ju,c.out,Hbx.out⟩
    simp[intOf];omega
   have G:decide ((0:Int)<(j:Int))=false:=by simpa using D
   clear a;go_wp2_with fail;go_quiet (fail);have Hbx:=zh (below_drewN h.out nq);go_wp2;go_roundw
   case rel=>exact⟨j+1,jo,ju,c.out,Hbx.out⟩
   simp[intOf];omega
  have A:(x.toList==y.toList)=false:=Bool.eq_false_iff.2 f;have r:(x.toList != y.toList)=true:=by rw[bne,A];rfl
  have c:=zh (Hno.out (by rw[Hss.out];exact A));clear f a;go_wp2_with fail;go_quiet (fail);have Hbx:=zh (below_drewN h.out nq);go_wp2;go_ret;exact⟨by rw[c.out];rfl,Hbx.out⟩
 obtain rfl:j=m:=jo;have b:=Hst.out;have I:=E.out;subst I;rw[xY]at b;have Fin:=zh b;clear b s;go_wp2;go_ret;exact⟨by rw[Fin.out];rfl,h.out⟩
end Qy

namespace Cr
open Go.RowKit
structure TabAt (w wr:World) (g k:Nat):Prop where
 bel:zWW w wr
 ge:g=w.heap.size
 ex:∃cs,Blk wr g 219 cs∧cs.size=256∧∀j,j<k→cs[j]?=some (.int .u32 (tab j:Nat))
theorem Hj:(Tryz.zeroCells219).size=256:=by kernel_rfl
theorem TabAt.start(w:World):TabAt w (w.alloc (.cells Tryz.zeroCells219 219)) w.heap.size 0:=
 ⟨zRR _,rfl,_,Blk.new _ _ _,Hj,fun j h=>absurd h jo⟩
theorem TabAt.put{w wr:World}{g k:Nat}(h:TabAt w wr g k)(hk:k<256):TabAt w (wr.setCell ⟨g,k,none⟩ (.int .u32 (tab k:Nat))) g (k+1):=by
 obtain⟨d,rfl,f,b,a,c⟩:=h;refine⟨d.setCell (p:=⟨w.heap.size,k,none⟩) (zG _) _,rfl,_,b.set_ k _,by simpa using a,fun j i=>?_⟩;rw[Array.getElem?_setIfInBounds];by_cases e:k=j
 ·subst e;rw[zI rfl,zI jo]
 rw[zH e];exact c j jo
theorem TabAt.old{w wr:World}{g k:Nat}(h:TabAt w wr g k)(i:Nat)(hk:i<256):∃u,wr.cell? ⟨g,i,none⟩=some u∧wr.frozen? ⟨g,i,none⟩=false:=by
 obtain⟨e,rfl,b,a,c,d⟩:=h;exact⟨b[i]'jo,by rw[a.cell,Array.getElem?_eq_getElem],a.frozen i⟩
theorem BP(x:Nat)(h:x<2 ^ 32):bits .and .u32 (x:Int) 1=((x%2:Nat):Int):=by
 have:=u32_and_nat x 1 jo jo;rw[show (1:Int)=((1:Nat):Int)from rfl,this];congr 1;exact Nat.and_two_pow_sub_one_eq_mod x 1
theorem p7(x y:Nat)(h:x<2 ^ 32)(hy:y<2 ^ 32):bits .xor .u32 (x:Int) (y:Int)=((x ^^^ y:Nat):Int):=u32_xor_nat x y (by omega) (by omega)
theorem sU(x:Nat):((x/2:Nat):Int)=(x:Int)/2:=by omega
theorem Hk(w:World):Calls prog 158 #[] w fun e w'=>∃g,e=.returned (.pointer (some ⟨g,0,none⟩))∧TabAt w w' g 256:=by
 have o:=zh (TabAt.start w);go_enter func158,ntmps158;go_wp2_with fail;generalize c:w.alloc (.cells Tryz.zeroCells219 219)=E at *;clear c;go_loopw [5] (fun i wr=>∃k:Nat,k≤256∧i=.int .i64 k∧TabAt w wr w.heap.size k) (fun i _=>256-(intOf i).toNat)
 case atStart=>exact⟨0,jo,rfl,o.out⟩
 obtain⟨k,H,rfl,j⟩:=hrel;have b:=zh j;clear j;by_cases a:k<256
 ·have q:(k:Int)<256:=jo;have z:(k:Int)%4294967296=k:=jo;go_wp2_with fail
  go_loop [3,10] (fun x n=>∃m:Nat,m≤8∧n=.int .i64 m∧x=.int .u32 (ons m k:Nat)) (fun _ n=>8-(intOf n).toNat)
  case atStart=>exact⟨0,jo,rfl,rfl⟩
  obtain⟨m,F,rfl,rfl⟩:=hrel;have d:=Cz m (x:=k) jo;have l:ons (m+1) k=on1 (ons m k):=rfl;have f:m=8→ons m k=tab k:=fun e=>by rw[e,LK]
  have h:=zh l;have v:=zh f;clear l f;generalize ons m k=x at *;by_cases t:m<8
  ·have C:(m:Int)<8:=jo;have p:(0:Int)≤(x:Int):=jo;have s:(x:Int)<4294967296:=jo;rcases Nat.mod_two_eq_zero_or_one x with h2|h2
   ·have B:bits .and .u32 (x:Int) 1=0:=by rw[BP x d,h2];rfl
    have Fin:Hid (on1 x=x/2):=zh (by unfold on1;rw[zH jo]);clear h2;go_wp2
    go_round
    case rel=>exact⟨m+1,jo,ju,by rw[h.out,Fin.out,sU]⟩
    simp[intOf];omega
   have B:bits .and .u32 (x:Int) 1=1:=by rw[BP x d,h2];rfl
   have D:bits .xor .u32 ((x:Int)/2) 3988292384=((on1 x:Nat):Int):=by
    rw[←sU,show (3988292384:Int)=((3988292384:Nat):Int)from rfl,p7 _ _ jo jo];unfold on1;rw[zI h2]
   clear h2;go_wp2
   go_round
   case rel=>exact⟨m+1,jo,ju,by rw[h.out]⟩
   simp[intOf];omega
  obtain rfl:m=8:=jo;obtain⟨u,G,A⟩:=b.out.old k a;have y:=zh (b.out.put a);have r:=v.out rfl;subst r;go_wp2;go_roundw
  case rel=>exact⟨k+1,jo,ju,y.out⟩
  simp[intOf];omega
 obtain rfl:k=256:=jo;go_wp2;go_ret;exact⟨_,rfl,b.out⟩
end Cr

namespace Cu
open Go.RowKit Qy
def mkD(g:List UInt8):Int × List Dc:=g.foldl (fun p x=>(p.1+(1+(x.toNat:Int)%3),p.2 ++ [⟨p.1+(1+(x.toNat:Int)%3),0,[]⟩])) (0,[])
theorem BA(g:List UInt8)(x:UInt8):mkD (g ++ [x])=((mkD g).1+(1+(x.toNat:Int)%3),(mkD g).2 ++ [⟨(mkD g).1+(1+(x.toNat:Int)%3),0,[]⟩]):=by
 unfold mkD;rw[List.foldl_append];rfl
end Cu
end Go.Proofs.YtmomjpolkkbhnaaGreat
