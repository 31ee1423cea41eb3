/- slices.Insert of one bucket into a row of the call's own: the walk. -/
import Derived.Laws.CopyRow
import Derived.Laws.OwnMore
import Derived.Lib.AppendZerosOnto
import Derived.Lib.Overlaps
import Derived.Lib.SlBuf
import Derived.Laws.Externs
import Derived.Deep.RegionLaw
import Derived.Deep.RegionHeld3
import Derived.Laws.NewBlocks
import Derived.BigRegion
import Derived.RegionTactic
import Derived.ChangeAlike
import Derived.Test.YtmomjpolkkbhnaaGreatQModelRunsRow4
set_option maxRecDepth 20000
set_option maxHeartbeats 100000000
set_option linter.unusedSimpArgs false
open Go.Proofs.Tryz
namespace Go.Proofs.YtmomjpolkkbhnaaGreat
namespace Hi
open Go.RowKit
section
variable {P:Program}
theorem qj(w:World)(dT sT ty elem:TypeId)(sz m:Nat)(g o dLen dCap:Nat)(a:Addr)(sLen sCap:Nat)(cur:Array Value)(t:TypeId)(cs:List Value)
  (hu:P.underlying dT=some (.slice elem)) (hs:(P.info? elem).map (·.size)=some sz) (hg:w.heap[g]?=some (.cells cur t (0,0))) (hm:Nat.min sLen dLen=m) (hn:cs.length=m*sz)
  (hsrc:∀j v,cs[j]?=some v→w.cell? (a.add j)=some v) (hfit:o+cs.length≤cur.size) (h1:∀v∈cs,v.oneCell'=true) :
  (Builtin.copy_ #[dT,sT] ty #[.slice (some ⟨g,o,none⟩) dLen dCap,.slice (some a) sLen sCap]).run P w =
   .ok (Go.goInt m) (w.setRow g (cur.toList.take o++cs++cur.toList.drop (o+cs.length)).toArray):=by
 have c:=run_loadCells_list (P:=P) w a cs hsrc;have b:=run_storeCells_at P g o t cs 0 cur w hg (by simpa using hfit) h1
 cases hq:P.info? elem with
 | none=>simp[hq]at hs
 | some i=>
  have d:i.size=sz:=by simpa[hq]using hs
  rw[hn]at c;simp[Builtin.copy_,run_underlying hu,Builtin.lenOf,Builtin.firstCells,sizeOf,typeInfo,hq,d,hm,c,b]
theorem yg{ops:Array Oper}{o:Oper}{a:Act}{w:World}{K:Act→World→Prop}{Q:Exit→Act→World→Prop}{E:Prop}
  (hg:o.guard=none) (d x:Operand) (dT sT:TypeId) (hop:o.op=Op.call { callee:=Callee.builtin Builtin.copy,args:=#[d,x],argTypes:=#[dT,sT] })
  (v u:Value) (hd:a.eval d=v) (hx:a.eval x=u) {v':Value} {w':World} (hr:(Builtin.copy_ #[dT,sT] o.type #[v,u]).run P w=.ok v' w') (hK:K (a.put o.dst v') w') :
  if Region.wanted o (yielded ops a.tmps)=true then Oper.wp P o a w K Q else E:=by
 have b:Region.wanted o (yielded ops a.tmps)=true:=by simp[Region.wanted,hg]
 rw[zI b];exact Lib.wp_copy_run w d x dT sT hop v u hd hx hr hK
end
theorem LY(C D X:List Value)(a:Nat)(hX:X.length=2)(hl:a+2+D.length≤C.length) :
  ((C.take (a+2)++D++C.drop (a+2+D.length)).take a++X++(C.take (a+2)++D++C.drop (a+2+D.length)).drop (a+X.length)).take (a+2+D.length)=C.take a++X++D:=by
 have e:(C.take (a+2)).length=a+2:=jw
 have d:(C.take (a+2)++D++C.drop (a+2+D.length)).take a=C.take a:=by
  rw[List.append_assoc,List.take_append_of_le_length jo,List.take_take,Nat.min_eq_left jo]
 have c:(C.take (a+2)++D++C.drop (a+2+D.length)).drop (a+X.length)=D++C.drop (a+2+D.length):=by
  rw[hX,List.append_assoc,List.drop_append_of_le_length jo,List.drop_eq_nil_of_le jo,List.nil_append]
 have b:(C.take a++X).length=a+2:=by rw[zJ,zK,hX];omega
 rw[d,c,←List.append_assoc,List.take_append_of_le_length (by rw[zJ,b];omega),zR (by rw[zJ,b];omega)]
theorem l6:(prog.info? 91).map (fun i=>(i.zero,i.size,i.bytes))=some (some (.agg #[.int .i64 0,.int .i64 0]),2,16):=by kernel_rfl
theorem rL:(prog.info? 91).map (·.size)=some 2:=by kernel_rfl
def OwnB(w:World)(base:Nat)(v:Value)(l:List Bk):Prop:=w.ownsRow base 91 2 v l.length (bkC l)
def qJ(w:World)(base:Nat)(v:Value)(l:List Bk)(e:Ending)(w':World):Prop:=
 ∃v',e=.returned v'∧OwnB w' base v' l∧w.grownBy w' v.ownBlock
theorem add_lit(b o j:Nat):(⟨b,o,none⟩:Addr).add j=⟨b,o+j,none⟩:=by unfold Addr.add;split<;>simp_all
theorem Jm(base g cap i vb:Nat)(l:List Bk)(k x:Int)(w:World)(hown:OwnB w base (.slice (some ⟨g,0,none⟩) l.length cap) l)(hi:i<l.length)(hroom:l.length+1≤cap)(hl:l.length≤1000000)
  (hv:Blk w vb 91 #[.int .i64 k,.int .i64 x]) (hne:vb≠g) :
  Calls prog 134 #[.slice (some ⟨g,0,none⟩) l.length cap,.int .i64 (i:Int),.slice (some ⟨vb,0,none⟩) 1 1] w
   (qJ w base (.slice (some ⟨g,0,none⟩) l.length cap) (l.take i++(k,x)::l.drop i)):=by
 obtain⟨a,C,D,F,V,J⟩:∃a:Array Value,cap≤maxLen∧w.heap[g]?=some (.cells a 91 (0,0))∧a.size=cap*2∧a.toList.take (l.length*2)=bkC l∧base≤g:=by
  rcases hown.2 with⟨h,_⟩|⟨g',aa,a,h,hb,D,ab,C,T,ht⟩
  ·cases h
  injection h with h1 h2 h3;injection h1 with h1;injection h1 with h1;subst h1 h3;exact⟨a,C,D,T,ht,hb⟩
 unfold maxLen at C;have t:w.shape? g=some (91,cap*2):=by unfold World.shape?;rw[D];simp[F]
 have r:w.shape? vb=some (91,2):=by unfold World.shape?;unfold Blk at hv;rw[hv];rfl
 have M:∀L R,(callFunc 156 #[.slice (some ⟨vb,0,none⟩) 1 1,.slice (some ⟨g,(i+1)*2,none⟩) L R]).run prog w=.ok (.value (.bool false)) w:=fun L R=>by
  rw[run_callFunc_extern func156 jk jk jk (e:=Extern.SlicesOverlaps.overlaps #[40,40] #[4]) jk,
   Lib.run_overlaps_apart w 40 4 91 underlying40 2 (fun _=>jk) ⟨vb,0,none⟩ ⟨g,(i+1)*2,none⟩ 1 1 L R hne _ _ _ _ r t jo (hv.frozen 0) (hv.frozen 2)]
  rfl
 have ag:((i:Int)==(l.length:Int))=false:=zM.2 jo;have af:(l.length:Int)+1≤(cap:Int):=jo;have d:(bkC (l.drop i)).length=(l.length-i)*2:=by rw[jD,zP]
 have m:∀j u,(bkC l)[j]?=some u→w.cell? ⟨g,j,none⟩=some u:=fun j u o=>by
  have:=hown.cells (g:=g) rfl j u o;rw[add_lit,zi]at this;exact this
 have n:∀A y S N p,N=l.length-i→p=l.length+1-i→(Builtin.copy_ #[40,40] A #[.slice (some ⟨g,(i+1)*2,none⟩) N y,.slice (some ⟨g,i*2,none⟩) p S]).run prog w.drew =
   .ok (Go.goInt (l.length-i:Nat)) (w.drew.setRow g (a.toList.take (i*2+2)++bkC (l.drop i)++a.toList.drop (i*2+2+(bkC (l.drop i)).length)).toArray):=fun A y S N p X H=>by
  have e:(i+1)*2=i*2+2:=jo;rw[e]
  exact qj w.drew _ _ A 91 2 (l.length-i) g (i*2+2) _ y ⟨g,i*2,none⟩ _ S a 91 (bkC (l.drop i)) underlying40 rL D (by simp only[Nat.min_def];split<;>omega) d
   (fun j u o=>by
    rw[add_lit];rw[qF,List.getElem?_drop]at o
    exact m _ _ o) (by rw[d];omega) (iW _)
 obtain⟨b,B⟩:∃b,b=a.toList.take (i*2+2)++bkC (l.drop i)++a.toList.drop (i*2+2+(bkC (l.drop i)).length):=⟨_,rfl⟩;have z:i*2+2+(bkC (l.drop i)).length≤a.toList.length:=by rw[d,Array.length_toList (xs:=a),F];omega
 have c:=LY a.toList (bkC (l.drop i)) [Value.int .i64 k,Value.int .i64 x] (i*2) rfl z;rw[←B]at n c
 have I:b.length=cap*2:=by
  rw[B,zJ,zJ,zK,zP,d,Array.length_toList];omega
 have W:(w.drew.setRow g b.toArray).heap=(w.setRow g b.toArray).heap:=rfl
 have q:∀A y p,p=l.length+1-i→(Builtin.copy_ #[40,40] A #[.slice (some ⟨g,i*2,none⟩) p y,.slice (some ⟨vb,0,none⟩) 1 1]).run prog (w.drew.setRow g b.toArray) =
   .ok (Go.goInt (1:Nat)) ((w.drew.setRow g b.toArray).setRow g (b.take (i*2) ++ [Value.int .i64 k,Value.int .i64 x]++b.drop (i*2+2)).toArray):=fun A y p H=>by
  have U:(w.drew.setRow g b.toArray).heap[g]?=some (.cells b.toArray 91 (0,0)):=by rw[W];exact zz w g _ _ _ _ D
  have O:(w.drew.setRow g b.toArray).heap[vb]?=some (.cells #[.int .i64 k,.int .i64 x] 91 (0,0)):=by rw[W,vL w g vb _ hne];exact hv
  have:=qj (w.drew.setRow g b.toArray) 40 40 A 91 2 1 g (i*2) p y ⟨vb,0,none⟩ 1 1 b.toArray 91 [.int .i64 k,.int .i64 x] underlying40 rL U (by simp only[Nat.min_def];split<;>omega) rfl
   (fun j u o=>by
    rw[add_lit,zi,cell_of_row (w.drew.setRow g b.toArray) vb j _ _ _ O]
    simpa using o) jm (by intro u Y;simp at Y;rcases Y with rfl|rfl<;>rfl)
  simpa using this
 have f:OwnB ((w.drew.setRow g b.toArray).setRow g (b.take (i*2) ++ [Value.int .i64 k,Value.int .i64 x]++b.drop (i*2+2)).toArray) base (.slice (some ⟨g,0,none⟩) (l.length+1) cap) (l.take i++(k,x)::l.drop i):=by
  have s:(l.take i++(k,x)::l.drop i).length=l.length+1:=jm;unfold OwnB;rw[s];refine⟨by rw[jD,s],.inr ⟨g,cap,_,rfl,J,zz _ g _ _ _ _ (zz w.drew g _ _ _ _ D),hroom,jx,?_,?_⟩⟩
  ·simp;omega
  rw[d]at c;have e3:i*2+2+(l.length-i)*2=(l.length+1)*2:=jo;rw[e3]at c;rw[List.toList_toArray];refine c.trans ?_;rw[rK,kO,←V,List.take_take,Nat.min_eq_left jo,List.append_assoc];rfl
 have v:w.grownBy ((w.drew.setRow g b.toArray).setRow g (b.take (i*2) ++ [Value.int .i64 k,Value.int .i64 x]++b.drop (i*2+2)).toArray) (some g):=
  ⟨rfl,rfl,rfl,by simp[World.setRow],fun j _ o=>by
   have G:j≠g:=fun e=>o (by rw[e])
   rw[vL _ g j _ G,vL w.drew g j _ G];rfl⟩
 obtain⟨Z,E⟩:∃Z,Z=b.take (i*2) ++ [Value.int .i64 k,Value.int .i64 x]++b.drop (i*2+2):=⟨_,rfl⟩;rw[←E]at q f v;have Fin:=zh f;have Gr:=zh v;have ak:IntKind.i64.wrap ((i:Int)+1)=(i:Int)+1:=IntWalk.i64_in _ jo;have ad:(0:Int)≤(i:Int)+1:=jo;have ah:((i:Int)+1).toNat=i+1:=jo;have ai:¬(cap=i+1):=jo;have ac:(i:Int)≤(l.length:Int)+1:=jo;have ae:i≤l.length:=jo;have aj:¬(cap=i):=jo;clear E c f v m d B I t r;go_enter func134,ntmps134;go_wp2_with (simp only[M])
 go_region_law (refine yg rfl _ _ 40 40 rfl _ _ (by simp[Act.eval,Act.put]) (by simp[Act.eval,Act.put]) (n _ _ _ _ _ jo jo) ?_)
 go_wp2_with (at_builtin;refine Lib.wpList_copy_run _ rfl _ _ 40 40 rfl _ _ rfl rfl (q _ _ _ jo) ?_);go_ret;exact⟨_,rfl,Fin.out,Gr.out⟩
end Hi

namespace Hi
open Go.RowKit
theorem Fv(A X D Z:List Value)(a:Nat)(ha:A.length=a)(hX:X.length=2) :
  (((A++Z).take a++X++(A++Z).drop (a+2)).take (a+2)++D++((A++Z).take a++X++(A++Z).drop (a+2)).drop (a+2+D.length)).take (a+2+D.length)=A++X++D:=by
 subst ha;have c:(A++Z).take A.length=A:=by rw[List.take_append_of_le_length (zG _),zR (zG _)]
 have b:(A++X).length=A.length+2:=by rw[zJ,hX]
 rw[c]
 have d:(A++X++(A++Z).drop (A.length+2)).take (A.length+2)=A++X:=by
  rw[List.take_append_of_le_length jo,zR jo]
 rw[d,List.take_append_of_le_length (by rw[zJ,b];omega),zR (by rw[zJ,b];omega)]
theorem yB(w:World)(g:Nat)(c:Array Value):(w.setRow g c).heap.size=w.heap.size:=by simp[World.setRow]
theorem Hy(w:World)(o:Obj)(N:Nat)(hN:N=w.heap.size):(w.alloc o).heap[N]?=some o:=by subst hN;show (w.heap.push o)[w.heap.size]?=some o;simp
theorem H0(w:World)(o:Obj)(k:Nat)(hk:k<w.heap.size):(w.alloc o).heap[k]?=w.heap[k]?:=by show (w.heap.push o)[k]?=_;simp[Array.getElem?_push,Nat.ne_of_lt hk]
theorem Jn(base g cap i vb:Nat)(l:List Bk)(k x:Int)(w:World)(hown:OwnB w base (.slice (some ⟨g,0,none⟩) l.length cap) l)(hi:i<l.length)(hroom:cap<l.length+1)(hl:l.length≤1000000)
  (hv:Blk w vb 91 #[.int .i64 k,.int .i64 x]) (hbase:base≤w.heap.size) :
  Calls prog 134 #[.slice (some ⟨g,0,none⟩) l.length cap,.int .i64 (i:Int),.slice (some ⟨vb,0,none⟩) 1 1] w
   (qJ w base (.slice (some ⟨g,0,none⟩) l.length cap) (l.take i++(k,x)::l.drop i)):=by
 obtain⟨n,S,X,hg,av,ax,az⟩:∃n:Array Value,cap≤maxLen∧l.length≤cap∧w.heap[g]?=some (.cells n 91 (0,0))∧n.size=cap*2∧n.toList.take (l.length*2)=bkC l∧base≤g:=by
  rcases hown.2 with⟨h,_⟩|⟨g',an,n,h,hb,hg,X,S,af,ht⟩
  ·cases h
  injection h with h1 h2 h3;injection h1 with h1;injection h1 with h1;subst h1 h3;exact⟨n,S,X,hg,af,ht,hb⟩
 obtain rfl:cap=l.length:=jo;have aj:g<w.heap.size:=(Array.getElem?_eq_some_iff.1 hg).1;have ac:vb<w.heap.size:=hv.lt;have aD:((i:Int)==(l.length:Int))=false:=zM.2 jo;have aC:((l.length:Nat):Int)<(l.length:Int)+1:=jo;have q:(bkC (l.drop i)).length=(l.length-i)*2:=by rw[jD,zP]
 have r:(bkC (l.take i)).length=i*2:=by rw[jD,zK];omega
 have f:∀j u,(bkC l)[j]?=some u→w.cell? ⟨g,j,none⟩=some u:=fun j u b=>by
  have:=hown.cells (g:=g) rfl j u b;rw[add_lit,zi]at this;exact this
 obtain⟨T,ag,ah,ad,U⟩:=info_parts l6
 have E:(Builtin.firstCells T.size i (.slice (some ⟨g,0,none⟩) i l.length)).run prog w.drew=.ok (bkC (l.take i)).toArray w.drew:=by
  rw[ad]
  exact run_firstCells_some w.drew 2 i ⟨g,0,none⟩ i l.length (bkC (l.take i)) r (fun j v b=>by
   rw[add_lit,zi];rw[kO,List.getElem?_take]at b
   split at b
   ·exact f j v b
   cases b)
 obtain⟨G,hG⟩:∃G,G=grownCap w (l.length+1) l.length 91:=⟨_,rfl⟩;have al:l.length+1≤G:=by rw[hG];exact grownCap_ge w _ _ _
 have B:G≤maxLen:=by rw[hG];exact grownCap_le_maxLen w _ _ _ jx
 have ae:G≤9223372036854775807:=by unfold maxLen at B;omega
 obtain⟨R,I⟩:∃R,R=Builtin.zeroCells (Value.agg #[.int .i64 0,.int .i64 0]).cells (l.length+1-i)++Builtin.zeroCells (Value.agg #[.int .i64 0,.int .i64 0]).cells (G-(l.length+1)):=⟨_,rfl⟩
 have W:R.toList.length=(G-i)*2:=by
  rw[I,Array.length_toList];simp[Builtin.zeroCells,Value.cells];omega
 have O:∀o,(Builtin.append_ #[40,3] o #[.slice (some ⟨g,0,none⟩) i l.length,.int .i64 ((l.length:Int)+1-(i:Int))]).run prog w =
   .ok (.slice (some ⟨w.heap.size,0,none⟩) (l.length+1) G) (w.drew.alloc (.cells (bkC (l.take i)++R.toList).toArray 91)):=fun o=>by
  have h:=Lib.run_append_grow_zeros w 40 3 o 91 T _ .i64 .i64 underlying40 underlying3 ag ah (some ⟨g,0,none⟩) i l.length (bkC (l.take i)) E (l.length+1-i) jo jo jo jo (by rw[U];omega) (by rw[U];exact growslice_fits jo jo);have e:i+(l.length+1-i)=l.length+1:=jo;have e2:(l.length:Int)+1-(i:Int)=((l.length+1-i:Nat):Int):=jo;rw[e,←hG]at h;rw[e2,h,I];congr 3;simp
 obtain⟨ROW,m⟩:∃ROW,ROW=bkC (l.take i)++R.toList:=⟨_,rfl⟩;rw[←m]at O;have Y:ROW.length=G*2:=by rw[m,zJ,r,W];omega
 obtain⟨N,hN⟩:∃N,N=w.heap.size:=⟨_,rfl⟩;rw[←hN]at O;have ar:g≠N:=jo;have aB:vb≠N:=jo;obtain⟨a,d⟩:∃a,a=(w.alloc (.cells ROW.toArray 91)).drew:=⟨_,rfl⟩;have F:a.heap[N]?=some (.cells ROW.toArray 91 (0,0)):=by rw[d];exact Hy w _ N hN
 have J:∀j,j<w.heap.size→a.heap[j]?=w.heap[j]?:=fun j b=>by rw[d];exact H0 w _ j b
 obtain⟨c,s⟩:∃c,c=ROW.take (i*2) ++ [Value.int .i64 k,Value.int .i64 x]++ROW.drop (i*2+2):=⟨_,rfl⟩
 have A:c.length=G*2:=by
  rw[s,zJ,zJ,zK,zP,Y];simp;omega
 have Z:∀o H t,t=l.length+1-i→(Builtin.copy_ #[40,40] o #[.slice (some ⟨N,i*2,none⟩) t H,.slice (some ⟨vb,0,none⟩) 1 1]).run prog a =
   .ok (Go.goInt (1:Nat)) (a.setRow N c.toArray):=fun o H t ab=>by
  have ak:a.heap[vb]?=some (.cells #[.int .i64 k,.int .i64 x] 91 (0,0)):=(J vb ac).trans hv
  have:=qj a 40 40 o 91 2 1 N (i*2) t H ⟨vb,0,none⟩ 1 1 ROW.toArray 91 [.int .i64 k,.int .i64 x] underlying40 rL F (by simp only[Nat.min_def];split<;>omega) rfl
   (fun j u b=>by
    rw[add_lit,zi,cell_of_row a vb j _ _ _ ak]
    simpa using b) jm (by intro u hu;simp at hu;rcases hu with rfl|rfl<;>rfl)
  rw[s]
  simpa using this
 have M:(a.setRow N c.toArray).drew.heap[N]?=some (.cells c.toArray 91 (0,0)):=zz a N _ _ _ _ F;have L:∀j,j<w.heap.size→(a.setRow N c.toArray).drew.heap[j]?=w.heap[j]?:=fun j b=>(vL a N j _ jo).trans (J j b)
 obtain⟨P,y⟩:∃P,P=c.take (i*2+2)++bkC (l.drop i)++c.drop (i*2+2+(bkC (l.drop i)).length):=⟨_,rfl⟩
 have C:P.length=G*2:=by
  rw[y,zJ,zJ,zK,zP,A,q];omega
 have V:∀o H sc dl t,dl=l.length-i→t=l.length-i→(Builtin.copy_ #[40,40] o #[.slice (some ⟨N,(i+1)*2,none⟩) dl H,.slice (some ⟨g,i*2,none⟩) t sc]).run prog (a.setRow N c.toArray).drew =
   .ok (Go.goInt (l.length-i:Nat)) ((a.setRow N c.toArray).drew.setRow N P.toArray):=fun o H sc dl t am ab=>by
  have e:(i+1)*2=i*2+2:=jo;rw[e]
  have:=qj (a.setRow N c.toArray).drew 40 40 o 91 2 (l.length-i) N (i*2+2) dl H ⟨g,i*2,none⟩ t sc c.toArray 91 (bkC (l.drop i)) underlying40 rL M (by simp only[Nat.min_def];split<;>omega) q
   (fun j u b=>by
    rw[add_lit];rw[qF,List.getElem?_drop]at b
    exact(vP (L g aj)).trans (f _ _ b)) (by rw[q,List.size_toArray];omega) (iW _)
  rw[y];exact this
 have D:OwnB ((a.setRow N c.toArray).drew.setRow N P.toArray) base (.slice (some ⟨N,0,none⟩) (l.length+1) G) (l.take i++(k,x)::l.drop i):=by
  have z:(l.take i++(k,x)::l.drop i).length=l.length+1:=jm;unfold OwnB;rw[z];refine⟨by rw[jD,z],.inr ⟨N,G,_,rfl,jo,zz _ N _ _ _ _ M,al,B,?_,?_⟩⟩
  ·rw[List.size_toArray,C]
  have p:=Fv (bkC (l.take i)) [Value.int .i64 k,Value.int .i64 x] (bkC (l.drop i)) R.toList (i*2) r rfl;rw[←m,←s,←y,q]at p;have e3:i*2+2+(l.length-i)*2=(l.length+1)*2:=jo;rw[e3]at p;rw[List.toList_toArray];refine p.trans ?_;rw[rK,List.append_assoc];rfl
 have aa:w.grownBy ((a.setRow N c.toArray).drew.setRow N P.toArray) (some g):=
  ⟨by rw[d];rfl,by rw[d];rfl,by rw[d];rfl,by rw[yB];show _≤(a.setRow N c.toArray).heap.size;rw[yB,d];show _≤(w.heap.push _).size;rw[Array.size_push];omega,fun j ai b=>by
   rw[vL _ N j _ jo];exact L j ai⟩
 have Fin:=zh D;have Gr:=zh aa;have au:IntKind.i64.wrap ((i:Int)+1)=(i:Int)+1:=IntWalk.i64_in _ jo;have aw:(0:Int)≤(i:Int)+1:=jo;have aq:((i:Int)+1).toNat=i+1:=jo;have aE:¬(G=i+1):=jo;have aA:(i:Int)≤(l.length:Int)+1:=jo;have ay:¬(G=i):=jo;have ao:i≤l.length:=jo;have ap:¬(l.length=i):=jo;subst d;clear y D aa f q r s A C Y m W I hG hN E F J M L;go_enter func134,ntmps134
 go_wp2_with (first
  | (at_builtin;refine Lib.wpList_append_run _ rfl _ _ _ _ rfl _ _ rfl rfl _ _ (O _) ?_)
  | (at_builtin;refine Lib.wpList_copy_run _ rfl _ _ 40 40 rfl _ _ rfl rfl (Z _ _ _ jo) ?_))
 go_region_law (refine yg rfl _ _ 40 40 rfl _ _ (by simp[Act.eval,Act.put]) (by simp[Act.eval,Act.put]) (V _ _ _ _ _ jo jo) ?_)
 go_wp2;go_ret;exact⟨_,rfl,Fin.out,Gr.out⟩
end Hi

namespace Hi
open Go.RowKit
theorem ET(base g cap vb:Nat)(l:List Bk)(k x:Int)(w:World)(hown:OwnB w base (.slice (some ⟨g,0,none⟩) l.length cap) l)(hl:l.length≤1000000)
  (hv:Blk w vb 91 #[.int .i64 k,.int .i64 x]) (hbase:base≤w.heap.size) :
  Calls prog 134 #[.slice (some ⟨g,0,none⟩) l.length cap,.int .i64 (l.length:Int),.slice (some ⟨vb,0,none⟩) 1 1] w
   (qJ w base (.slice (some ⟨g,0,none⟩) l.length cap) (l ++ [(k,x)])):=by
 obtain⟨i,m,n,p,e⟩:=info_parts l6;obtain⟨N,v⟩:∃N,N=l.length:=⟨_,rfl⟩;unfold OwnB at hown;rw[←v]at hown hl ⊢
 have Post:Hid (∀t o,t.ownsRow base 91 2 o (N+1) (bkC l ++ [Value.int .i64 k,Value.int .i64 x])→OwnB t base o (l ++ [(k,x)])):=zh (fun t o h=>by
  unfold OwnB;rw[zJ,rK,←v]
  exact h)
 obtain⟨X,d⟩:∃X,X=[Value.int .i64 k,Value.int .i64 x]:=⟨_,rfl⟩
 have r:∀j u,X[j]?=some u→w.cell? ((⟨vb,0,none⟩:Addr).add j)=some u:=fun j u D=>by
  rw[add_lit,zi,cell_of_row w vb j _ _ _ hv,←D,d];simp
 have q:∀u∈X,u.oneCell'=true:=by rw[d];intro u y;simp at y;rcases y with rfl|rfl<;>rfl
 have f:X.length=1*2:=by rw[d];rfl
 rw[←d]at Post;obtain⟨s,c⟩:∃s,s=bkC l:=⟨_,rfl⟩;rw[←c]at Post hown
 have E:N≤cap:=by
  rcases hown.2 with⟨h,_⟩|⟨J,z,A,h,O,L,B,I,c,M⟩
  ·cases h
  injection h with h1 h2 h3;omega
 clear d c v hv;by_cases H:cap=N
 ·subst H;go_enter func134,ntmps134;go_wp2_with (at_builtin;refine vJ _ rfl _ _ 40 rfl base 91 i _ 2 16 underlying40 m n p e rfl jd (.slice (some ⟨g,0,none⟩) cap cap) cap s rfl hown ⟨vb,0,none⟩ 1 1 X rfl f r q ?d3 ?d4 hbase ?_)
  case d3=>unfold maxLen;omega
  case d4=>omega
  intro o C a b _;have F:=zh (Post.out _ _ a);have G:=zh b;clear a b hown;go_wp2;go_ret;exact⟨_,rfl,F.out,G.out⟩
 go_enter func134,ntmps134;go_wp2_with (at_builtin;refine vJ _ rfl _ _ 40 rfl base 91 i _ 2 16 underlying40 m n p e rfl jd (.slice (some ⟨g,0,none⟩) N cap) N s rfl hown ⟨vb,0,none⟩ 1 1 X rfl f r q ?d3 ?d4 hbase ?_)
 case d3=>unfold maxLen;omega
 case d4=>omega
 intro o C a b _;have F:=zh (Post.out _ _ a);have G:=zh b;clear a b hown;go_wp2;go_ret;exact⟨_,rfl,F.out,G.out⟩
theorem Es(base vb:Nat)(k x:Int)(w:World)
  (hv:Blk w vb 91 #[.int .i64 k,.int .i64 x]) (hbase:base≤w.heap.size) :
  Calls prog 134 #[.slice none 0 0,.int .i64 0,.slice (some ⟨vb,0,none⟩) 1 1] w
   (qJ w base (.slice none 0 0) [(k,x)]):=by
 obtain⟨p,f,i,l,n⟩:=info_parts l6;have b:=vO w base 91 2;have Post:Hid (∀g e,g.ownsRow base 91 2 e (0+1) ([] ++ [Value.int .i64 k,Value.int .i64 x])→OwnB g base e [(k,x)]):=zh (fun g e h=>h);obtain⟨X,d⟩:∃X,X=[Value.int .i64 k,Value.int .i64 x]:=⟨_,rfl⟩
 have q:∀j u,X[j]?=some u→w.cell? ((⟨vb,0,none⟩:Addr).add j)=some u:=fun j u s=>by
  rw[add_lit,zi,cell_of_row w vb j _ _ _ hv,←s,d];simp
 have m:∀u∈X,u.oneCell'=true:=by rw[d];intro u r;simp at r;rcases r with rfl|rfl<;>rfl
 have o:X.length=1*2:=by rw[d];rfl
 rw[←d]at Post;clear d hv;go_enter func134,ntmps134;go_wp2_with (at_builtin;refine vJ _ rfl _ _ 40 rfl base 91 p _ 2 16 underlying40 f i l n rfl jd (.slice none 0 0) 0 [] rfl b ⟨vb,0,none⟩ 1 1 X rfl o q m ?d3 ?d4 hbase ?_)
 case d3=>decide
 case d4=>omega
 intro e t a c _;have F:=zh (Post.out _ _ a);have G:=zh c;clear a c b;go_wp2;go_ret;exact⟨_,rfl,F.out,G.out⟩
theorem LZ(base i vb:Nat)(v:Value)(l:List Bk)(k x:Int)(w:World)(hown:OwnB w base v l)(hi:i≤l.length)(hl:l.length≤1000000)
  (hv:Blk w vb 91 #[.int .i64 k,.int .i64 x]) (hne:v.ownBlock≠some vb) (hbase:base≤w.heap.size) :
  Calls prog 134 #[v,.int .i64 (i:Int),.slice (some ⟨vb,0,none⟩) 1 1] w
   (qJ w base v (l.take i++(k,x)::l.drop i)):=by
 rcases hown.2 with⟨rfl,m⟩|⟨g,a,c,rfl,q,p,d,f,j,o⟩
 ·have:l=[]:=List.eq_nil_of_length_eq_zero m;subst this;obtain rfl:i=0:=by simpa using hi
  exact Es base vb k x w hv hbase
 have b:vb≠g:=fun e=>hne (by rw[e];rfl)
 by_cases h:i=l.length
 ·subst h;rw[List.take_length,List.drop_length];exact ET base g a vb l k x w hown hl hv hbase
 by_cases n:l.length+1≤a
 ·exact Jm base g a i vb l k x w hown jo n hl hv b
 exact Jn base g a i vb l k x w hown jo jo hl hv hbase
end Hi

namespace Hi
open Go.RowKit
structure Row (B:Nat) (w wr:World) (v:Value) (l:List Bk):Prop where
 own:OwnB wr B v l
 bel:Below B w wr
theorem OwnB.below{w w':World}{base:Nat}{v:Value}{l:List Bk}(h:OwnB w base v l)(hb:zWW w w'):OwnB w' base v l:=
 World.ownsRow.kept h (fH hb none) (by cases v.ownBlock<;>simp)
theorem tG{w w':World}{base:Nat}{v:Value}{l:List Bk}(h:OwnB w base v l)(hg:w.grownBy w' v.ownBlock)(hb:base≤w.heap.size):Below base w w':=
 ⟨hg.os,hg.tape,hg.output,hg.size,fun i a=>hg.block i jo fun e=>by have:=(World.ownsRow.lt h i e.symm).1;omega⟩
theorem Row.start(w wr:World)(B:Nat)(hb:Below B w wr):Row B w wr (.slice none 0 0) []:=⟨vO _ _ _ _,hb⟩
theorem Row.below{B:Nat}{w wr w':World}{v:Value}{l:List Bk}(h:Row B w wr v l)(hB:B≤wr.heap.size)(hb:zWW wr w'):Row B w w' v l:=⟨h.own.below hb,h.bel.trans (hb.mono hB)⟩
def kC(B:Nat)(w:World)(l:List Bk)(k n:Int)(e:Ending)(w':World):Prop:=
 ∃v',e=.returned (.tuple #[v',.bool (gN l k n).2])∧Row B w w' v' (gN l k n).1
theorem uw(B:Nat)(v:Value)(l:List Bk)(k n:Int)(w:World)(hown:OwnB w B v l)(hB:B≤w.heap.size)(hl:l.length≤1000000)(hup:Up l)(h1:∀b∈l,1≤b.2)(hn:1≤n)(hn2:n≤9223372036854775807) :
  Calls prog 106 #[v,.int .i64 k,.int .i64 n] w (kC B w l k n):=by
 obtain⟨A,c,rfl,P⟩:=fT hown;have G:=NB w;have Z:=zh P;have Hown:=zh hown;have Hup:=zh hup;have X:=zh h1;clear P hown hup h1;unfold kF at G;go_enter func106,ntmps106;go_wp2_with fail;refine G.mono ?_;rintro e w1 ⟨rfl,r,J⟩;have R:=tV A c w.heap.size w.heap.size l k w1 (Z.out.below r) r.size J Hup.out jo;have C:=zh r;clear r G J;unfold qQ at *;go_wp2_with fail;refine R.mono ?_;rintro e I ⟨rfl,x⟩;have m:=zt C x;clear x R;have ab:=m.out.size;have Hown2:=zh (Hown.out.below m.out);have H:=mD l k;by_cases u:oL l k=true
 ·have p:pos l k<l.length∧(l.getD (pos l k) (0,0)).1=k:=by unfold oL at u;simpa using u
  obtain⟨f,j⟩:=p;have a:l.getD (pos l k) (0,0)=l[pos l k]:=by rw[List.getD_eq_getElem?_getD,zU f];rfl
  rw[a]at j
  obtain⟨g,q,hv⟩:∃g q,Value.slice A l.length c=.slice (some ⟨g,0,none⟩) l.length q:=by
   rcases Hown2.out.2 with⟨h,h0⟩|⟨g,q,U,h,_⟩
   ·omega
   exact⟨g,q,h⟩
  injection hv with hA _ hc;subst hA hc;have s:=wD l (pos l k) f;have z:=Hown2.out.cellAt (pos l k*2+1) jo;rw[s.2]at z;have aa:=Hown2.out.frozenAt (pos l k*2+1);have N:=X.out l[pos l k] (za f);by_cases d:gI<n∨gI-n<l[pos l k].2
  ·have F:Hid (gN l k n=([],false)):=zh (by unfold gN;rw[zI ⟨f,by rw[a];exact j⟩,a,zI d]);unfold gI at d;generalize l[pos l k].2=y at *;generalize pos l k=i at *;clear s j a;go_wp2;all_goals go_ret2
   all_goals exact⟨.slice none 0 0,by rw[F.out];rfl,by rw[F.out];exact Row.start _ _ _ (m.out.mono hB)⟩
  have S:(bkC l).set (pos l k*2+1) (.int .i64 (l[pos l k].2+n))=bkC (l.set (pos l k) (k,l[pos l k].2+n)):=LW l (pos l k) k _ f j;have F:Hid (gN l k n=(l.set (pos l k) (k,l[pos l k].2+n),true)):=zh (by unfold gN;rw[zI ⟨f,by rw[a];exact j⟩,a,zH d]);have Hst:=zh (Hown2.out.stored (pos l k*2+1) (.int .i64 (l[pos l k].2+n)));rw[S]at Hst
  have Y:Hid (Row B w (I.setCell ⟨g,pos l k*2+1,none⟩ (.int .i64 (l[pos l k].2+n))) (.slice (some ⟨g,0,none⟩) l.length c) (l.set (pos l k) (k,l[pos l k].2+n))):=zh ⟨by
   have:=Hst.out.1;unfold OwnB;rw[List.length_set]
   exact this,(m.out.mono hB).trans (tG Hown2.out Hst.out.2 jo)⟩
  unfold gI at d;clear Hst S;generalize l[pos l k].2=y at *;generalize hi:pos l k=i at *;clear s j a;have hw:IntKind.i64.wrap (1099511627776-n)=1099511627776-n:=IntWalk.i64_in _ jo;have ac:IntKind.i64.wrap (y+n)=y+n:=IntWalk.i64_in _ jo;have M:¬1099511627776<n:=jo;have T:¬1099511627776-n<y:=jo;go_wp2;go_ret2;exact⟨.slice (some ⟨g,0,none⟩) l.length c,by rw[F.out];rfl,by rw[F.out];exact Y.out⟩
 have p:¬(pos l k<l.length∧(l.getD (pos l k) (0,0)).1=k):=fun h=>u (by unfold oL;simpa using h)
 have F:Hid (gN l k n=(l.take (pos l k)++(k,n)::l.drop (pos l k),decide (n≤gI))):=zh (by unfold gN;rw[zH p]);have D:oL l k=false:=by simpa using u
 have L:=LZ B (pos l k) I.heap.size (.slice A l.length c) l k n (I.alloc (.cells #[.int .i64 k,.int .i64 n] 91)) (World.ownsRow.alloc Hown2.out _) H hl (Blk.new _ _ _) (fun e=>by have:=(World.ownsRow.lt Hown2.out _ e).2;omega) (by rw[vM];omega);clear p u;rw[D];generalize pos l k=i at *;go_wp2_with fail;refine L.mono ?_;rintro e W ⟨E,rfl,o,t⟩;have O:Hid (Row B w W E (l.take i++(k,n)::l.drop i)):=zh ⟨o,(m.out.mono hB).trans (((zy _ _).alloc jo _).trans (tG (World.ownsRow.alloc Hown2.out _) t (by rw[vM];omega)))⟩;clear o t L;by_cases V:n≤1099511627776
 ·go_wp2;go_ret2;exact⟨E,by rw[F.out];unfold gI;rw[zO V];rfl,by rw[F.out];exact O.out⟩
 go_wp2;go_ret2;exact⟨E,by rw[F.out];unfold gI;rw[zN jo];rfl,by rw[F.out];exact O.out⟩
end Hi

namespace Hi
open Go.RowKit
theorem DJ(n d:Int)(hd:1≤d)(h:n.tmod d<0):n.tdiv d-1=n/d:=by
 have c:=Int.mul_tdiv_add_tmod n d;have e:=Int.lt_tmod_of_pos n (show 0<d by omega);have a:n=d*(n.tdiv d-1)+(n.tmod d+d):=by rw[Int.mul_sub];omega
 have b:n/d=(d*(n.tdiv d-1)+(n.tmod d+d))/d:=by rw[←a]
 rw[b,Int.add_comm,Int.add_mul_ediv_left _ _ jo,Int.ediv_eq_zero_of_lt jo jo];omega
theorem DK(n d:Int)(hd:1≤d)(h:¬n.tmod d<0):n.tdiv d=n/d:=by
 have b:=Int.mul_tdiv_add_tmod n d;have c:=Int.tmod_lt_of_pos n (show 0<d by omega);have a:n/d=(d*(n.tdiv d)+n.tmod d)/d:=by rw[b]
 rw[a,Int.add_comm,Int.add_mul_ediv_left _ _ jo,Int.ediv_eq_zero_of_lt jo jo];omega
theorem Dq(n d:Int)(hd:1≤d)(h1 : -9223372036854775808≤n)(h2:n≤9223372036854775807) : -9223372036854775808≤n.tdiv d∧n.tdiv d≤9223372036854775807:=by
 have:=Int.natAbs_tdiv_le_natAbs n d;constructor
 ·rcases Int.le_total 0 n with h|h
  ·have:=Int.tdiv_nonneg h (show 0≤d by omega);omega
  have:=Int.natAbs_tdiv_le_natAbs n d;omega
 rcases Int.le_total 0 n with h|h
 ·have:=Int.natAbs_tdiv_le_natAbs n d;omega
 have:=Int.tdiv_nonneg (a:=-n) (b:=d) jo jo;rw[Int.neg_tdiv]at this;omega
theorem Dr(n d:Int)(hd:1≤d)(h1 : -9223372036854775808≤n)(h2:n≤9223372036854775807) : -9223372036854775808≤n/d∧n/d≤9223372036854775807:=by
 have a:=Int.le_ediv_of_mul_le (c:=d) (a:=-9223372036854775808) (b:=n) jo jo;have b:=Int.ediv_lt_of_lt_mul (c:=d) (a:=n) (b:=9223372036854775808) jo jo;omega
abbrev sW(n:Int):Prop:=-9223372036854775808≤n∧n≤9223372036854775807
theorem IA(n d:Int)(w:World)(hd:1≤d)(hn:sW n)(hd2:d≤9223372036854775807):Calls prog 107 #[.int .i64 n,.int .i64 d] w fun e w'=>e=.returned (.int .i64 (n/d))∧w=w':=by
 have f:=Dq n d hd hn.1 hn.2;have c:=Dr n d hd hn.1 hn.2;have k:¬d=0:=jo;have j:wrap64 (n.tdiv d)=n.tdiv d:=IntWalk.wrap64_in _ f;have b:=Int.tmod_lt_of_pos n (show 0<d by omega);have a:=Int.lt_tmod_of_pos n (show 0<d by omega);have i:wrap64 (n.tmod d)=n.tmod d:=IntWalk.wrap64_in _ jo;by_cases h:n.tmod d<0
 ·have e:=zh (DJ n d hd h);have g:wrap64 (n.tdiv d-1)=n.tdiv d-1:=IntWalk.wrap64_in _ (by rw[e.out];exact c);clear b a c f hn;go_enter func107,ntmps107;go_wp2;go_ret;exact⟨by show Ending.returned (.int .i64 (wrap64 (n.tdiv d-1)))=_;rw[g,e.out],rfl⟩
 have e:=zh (DK n d hd h);clear b a c f hn;go_enter func107,ntmps107;go_wp2;go_ret;exact⟨by show Ending.returned (.int .i64 (n.tdiv d))=_;rw[e.out],rfl⟩
theorem Jo(n d:Int)(w:World)(hd:1≤d)(hn:sW n)(hd2:d≤9223372036854775807):Calls prog 39 #[.int .i64 n,.int .i64 d] w fun e w'=>e=.returned (.int .i64 (n/d))∧w=w':=by
 have b:=Dq n d hd hn.1 hn.2;have a:=Dr n d hd hn.1 hn.2;have g:¬d=0:=jo;have f:wrap64 (n.tdiv d)=n.tdiv d:=IntWalk.wrap64_in _ b;by_cases h:n.tmod d<0
 ·have e:=zh (DJ n d hd h);have c:wrap64 (n.tdiv d-1)=n.tdiv d-1:=IntWalk.wrap64_in _ (by rw[e.out];exact a);clear a b hn;go_enter func39,ntmps39;go_wp2;go_ret;exact⟨by show Ending.returned (.int .i64 (wrap64 (n.tdiv d-1)))=_;rw[c,e.out],rfl⟩
 have e:=zh (DK n d hd h);clear a b hn;go_enter func39,ntmps39;go_wp2;go_ret;exact⟨by show Ending.returned (.int .i64 (n.tdiv d))=_;rw[e.out],rfl⟩
end Hi

namespace Hi
open Go.RowKit
theorem ng{α:Type}{l m:List α}{k:Nat}(h:l.take k=m.take k)(hl:k<l.length)(hm:k<m.length)(he:l[k]=m[k]):l.take (k+1)=m.take (k+1):=by
 rw[zL hl,zL hm,h,he]
theorem IB(A A':Option Addr)(c c' B B':Nat)(l m:List Bk)(w:World)(hR:Reads w B 2 A l.length (bkC l))(hR':Reads w B' 2 A' m.length (bkC m))(hl:l.length≤140737488351232)(hm:m.length≤140737488351232) :
  Calls prog 14 #[.slice A l.length c,.slice A' m.length c'] w fun e w'=>e=.returned (.bool (decide (l=m)))∧zWW w w':=by
 have O:=zh hR;have t:=zh hR';clear hR hR';by_cases j:l.length=m.length
 ·go_enter func14,ntmps14;go_wp2;go_loopw [5] (fun i wr=>∃k:Nat,k≤l.length∧i=.int .i64 k∧Hid (l.take k=m.take k)∧zWW w wr∧(∀p,wr.cell? p=w.cell? p)) (fun i _=>l.length-(intOf i).toNat)
  case atStart=>exact⟨0,zS _,rfl,zh rfl,zy _ _,fun _=>rfl⟩
  obtain⟨k,S,rfl,u,q,a⟩:=hrel;by_cases g:k<l.length
  ·have d:k<m.length:=jo;obtain⟨R,o,rfl,F,J,H⟩:=jE O.out rfl g;obtain⟨E,P,rfl,D,s,r⟩:=jE t.out rfl d;rw[←a]at J H s r;have T:=zh (ng u.out g d);have b:=zh q;have G:=zh a;have n:(l[k]=m[k])↔(l[k].1=m[k].1∧l[k].2=m[k].2):=Prod.ext_iff;have v:Hid (¬(l[k]=m[k])→¬l=m):=zh (fun h e=>h (by subst e;rfl));rw[n]at T v;clear q a n;generalize l[k].1=x at *;generalize l[k].2=y at *;generalize m[k].1=I at *;generalize m[k].2=M at *;by_cases C:x=I
   ·by_cases z:y=M
    ·go_wp2;go_region;go_wp2;go_roundw
     case rel=>exact⟨k+1,jo,ju,zh (T.out ⟨C,z⟩),b.out.drew,G.out⟩
     simp[intOf];omega
    go_wp2;go_region;go_wp2;go_ret;exact⟨by rw[zN (v.out fun h=>z h.2)];rfl,b.out.drew⟩
   go_wp2;go_region;go_wp2;go_ret;exact⟨by rw[zN (v.out fun h=>C h.1)];rfl,b.out.drew⟩
  have f:l=m:=by
   have N:l.take k=l:=zR jo;have L:m.take k=m:=zR jo;rw[←N,←L,u.out]
  have b:=zh q;clear q a u;go_wp2;go_ret;exact⟨by rw[zO f];rfl,b.out⟩
 have:¬l=m:=fun e=>j (by rw[e])
 rw[zN this];go_enter func14,ntmps14;go_wp2;go_ret;exact⟨rfl,zy _ _⟩
end Hi
end Go.Proofs.YtmomjpolkkbhnaaGreat
