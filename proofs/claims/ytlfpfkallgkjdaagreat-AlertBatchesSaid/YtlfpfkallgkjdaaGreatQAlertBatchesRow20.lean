/- What is read of pieces is not too great: plain. -/
import Derived.Defers
import Derived.Recover
import Derived.Test.YtlfpfkallgkjdaaGreatQAlertBatchesRow19
import Derived.Test.YtlfpfkallgkjdaaGreatQAlertBatchesRow0
set_option linter.unusedSimpArgs false
set_option maxRecDepth 20000
section
namespace Go.Proofs.YtlfpfkallgkjdaaGreat.Qp
open Go.RowKit Ut Tk Qy
theorem words_few (s:P):(words s).length≤s.length:=by
 have:=words_len (str s)
 rw [str_data,← bsize,str_data] at this
 exact this
theorem wordsQ_w (nm:P) (l:List P) (q:Q) (hl:l.length≤1048576) (h:wordsQ nm l=some q):QW 1 q:=by
 unfold wordsQ at h
 split at h
 ·cases h
 ·split at h
  ·injection h with h
   subst h
   exact .mk (by rw [List.length_map]; omega) (by simp) (by simp)
  ·injection h with h
   subst h
   exact .mk (by rw [List.length_map]; omega) (by simp) (by simp)
theorem rest_len (s:P):(restOf s).length≤s.length:=by
 unfold restOf
 split
 ·rw [List.length_drop]; omega
 ·exact zG _
theorem leafQ_w (s:P) (q:Q) (hl:s.length≤1048576) (h:leafQ s=some q):QW 1 q:=by
 unfold leafQ at h
 have hr:=rest_len s
 split at h
 ·injection h with h
  subst h
  exact .mk (by simp) (by simp) (by simp)
 ·split at h
  ·cases h
  ·split at h
   ·refine wordsQ_w _ _ q ?_ h
    have:=words_few (((restOf s).take ((restOf s).length - 1)).drop 1)
    rw [List.length_drop,List.length_take] at this
    omega
   ·split at h
    ·split at h
     ·injection h with h
      subst h
      exact .mk (by simp) (by simp) (by simp)
     ·split at h
      ·injection h with h
       subst h
       have:=words_few (restOf s).dropLast
       rw [List.length_dropLast] at this
       exact .mk (by rw [List.length_map]; omega) (by simp) (by simp)
      ·cases h
    ·refine wordsQ_w _ _ q ?_ h
     have:=words_few (restOf s)
     omega
theorem oneQ_w (k:Int) (a:List Q) (K:Nat) (hl:a.length≤8796093021952) (h:∀ x∈a,QW K x):QW (K+1) (oneQ k a):=by
 match a,hl,h with
 | [q],_,h=>exact (h q (by simp)).more _ (by omega)
 | [],hl,h=>exact .mk (by simp) hl h
 | q :: q' :: a,hl,h=>exact .mk (by simp) hl h
def Wide (m:Md) (l:List P) (q:Q):Prop :=
 match m with
 | .part=>∀ K,4 * l.length≤K+3→QW K q
 | .and a=>∀ K,4 * l.length≤K+3→(∀ x∈a,QW K x)→a.length+l.length≤1048577→QW (K+1) q
 | .andT a=>∀ K,4 * l.length≤K+3→(∀ x∈a,QW K x)→a.length+l.length≤1048577→QW (K+1) q
 | .or a=>∀ K,4 * l.length≤K+3→(∀ x∈a,QW (K+1) x)→a.length+l.length≤1048577→QW (K+2) q
 | .orT a=>∀ K,4 * l.length≤K+3→(∀ x∈a,QW (K+1) x)→a.length+l.length≤1048577→QW (K+2) q
theorem R.wide {m:Md} {l:List P} {o:Option (Q × List P)} (h:R m l o) (hp:∀ x∈l,x.length≤1048576) (hm:l.length≤1048576):∀ q r,o=some (q,r)→Wide m l q:=by
 induction h with
 | pnil=>intro q r e; cases e
 | pnot hs h ih =>
  intro q r e K hK
  obtain ⟨⟨q',r'⟩,h1,h2⟩:=Option.map_eq_some_iff.1 e
  simp only [Prod.mk.injEq] at h2
  obtain ⟨rfl,_⟩:=h2
  rw [List.length_cons] at hK hm
  have:=ih (fun x hx=>hp x (by simp [hx])) (by omega) q' r' h1
  obtain ⟨K2,rfl⟩:∃ K2,K=K2+1:=⟨K - 1,by omega⟩
  exact .mk (by simp) (by simp) fun x hx=>by rw [List.mem_singleton] at hx; rw [hx]; exact this K2 (by omega)
 | @plp s t o hs h ih =>
  intro q r e K hK
  match o,e,h,ih with
  | some (q',s' :: r'),e,h,ih =>
   by_cases hp':s'=RP
   ·have e2:closed (some (q',s' :: r'))=some (q',r'):=if_pos hp'
    rw [e2] at e
    simp only [Option.some.injEq,Prod.mk.injEq] at e
    obtain ⟨rfl,_⟩:=e
    rw [List.length_cons] at hK hm
    obtain ⟨k,hk1,hk2,hk3⟩:=h.less _ _ rfl
    have hk4 : 1≤k:=hk3 (.inr (.inr ⟨_,rfl⟩))
    have:=ih (fun x hx=>hp x (by simp [hx])) (by omega) q' _ rfl (4 * t.length - 3) (by omega) (by simp) (by simp; omega)
    exact this.more _ (by omega)
   ·have e2:closed (some (q',s' :: r'))=none:=if_neg hp'
    rw [e2] at e
    cases e
  | some (q',[]),e,_,_=>cases e
  | none,e,_,_=>cases e
 | pbad hs=>intro q r e; cases e
 | pleaf hs =>
  intro q r e K hK
  obtain ⟨q',h1,h2⟩:=Option.map_eq_some_iff.1 e
  simp only [Prod.mk.injEq] at h2
  obtain ⟨rfl,_⟩:=h2
  rw [List.length_cons] at hK
  exact (leafQ_w _ _ (hp _ (by simp)) h1).more _ (by omega)
 | and0 h ih=>intro q r e; cases e
 | and1 h h2 ih ih2 =>
  intro q r e K hK ha hn
  obtain ⟨k,rfl,hk,h1⟩:=h.less _ _ rfl
  have hk1:=h1 (.inl rfl)
  have hq:=ih hp hm _ _ rfl K hK
  rw [List.length_drop] at ih2
  have:=ih2 (fun x hx=>hp x (List.mem_of_mem_drop hx)) (by omega) q r e K (by rw [List.length_drop]; omega) (fun x hx=>by
   rcases List.mem_append.1 hx with hx | hx
   ·exact ha x hx
   ·rw [List.mem_singleton] at hx; rw [hx]; exact hq) (by rw [List.length_append,List.length_singleton,List.length_drop]; omega)
  exact this
 | andE h =>
  intro q r e K hK ha hn
  simp only [Option.some.injEq,Prod.mk.injEq] at e
  obtain ⟨rfl,_⟩:=e
  exact oneQ_w _ _ K (by omega) ha
 | andA hs h ih =>
  intro q r e K hK ha hn
  rw [List.length_cons] at hK hm hn
  exact ih (fun x hx=>hp x (by simp [hx])) (by omega) q r e K (by omega) ha (by omega)
 | andN hs hn h ih =>
  intro q r e K hK ha hn
  exact ih hp hm q r e K hK ha hn
 | or0 h ih=>intro q r e; cases e
 | or1 h h2 ih ih2 =>
  intro q r e K hK ha hn
  obtain ⟨k,rfl,hk,h1⟩:=h.less _ _ rfl
  have hk1:=h1 (.inr (.inl ⟨_,rfl⟩))
  have hq:=ih hp hm _ _ rfl K hK (by simp) (by simp; omega)
  rw [List.length_drop] at ih2
  exact ih2 (fun x hx=>hp x (List.mem_of_mem_drop hx)) (by omega) q r e K (by rw [List.length_drop]; omega) (fun x hx=>by
   rcases List.mem_append.1 hx with hx | hx
   ·exact ha x hx
   ·rw [List.mem_singleton] at hx; rw [hx]; exact hq) (by rw [List.length_append,List.length_singleton,List.length_drop]; omega)
 | orE h =>
  intro q r e K hK ha hn
  simp only [Option.some.injEq,Prod.mk.injEq] at e
  obtain ⟨rfl,_⟩:=e
  exact oneQ_w _ _ (K+1) (by omega) ha
 | orO hs h ih =>
  intro q r e K hK ha hn
  rw [List.length_cons] at hK hm hn
  exact ih (fun x hx=>hp x (by simp [hx])) (by omega) q r e K (by omega) ha (by omega)
theorem or_wide {l:List P} {q:Q} {r:List P} (h:R (.or []) l (some (q,r))) (hp:∀ x∈l,x.length≤1048576) (hm:l.length≤1048576):∃ K,K≤16777216∧QW K q :=
 ⟨4 * l.length+2,by omega,h.wide hp hm q r rfl (4 * l.length) (by omega) (by simp) (by simp; omega)⟩
inductive PrsR:P→Int→Option Q→Prop
 | long {s} (h : 1024<s.length):PrsR s 2 none
 | noPieces {s} (h:s.length≤1024) (hp:pieces s=none):PrsR s 170 none
 | bad {s l} (h:s.length≤1024) (hp:pieces s=some l) (hr:R (.or []) l none):PrsR s 170 none
 | left {s l q r} (h:s.length≤1024) (hp:pieces s=some l) (hr:R (.or []) l (some (q,r))) (hl:r≠[]):PrsR s 170 none
 | many {s l q} (h:s.length≤1024) (hp:pieces s=some l) (hr:R (.or []) l (some (q,[]))) (hm:manyB q=true):PrsR s 3 none
 | deep {s l q} (h:s.length≤1024) (hp:pieces s=some l) (hr:R (.or []) l (some (q,[]))) (hm:manyB q=false) (hd : 16<depthN q):PrsR s 171 none
 | ok {s l q} (h:s.length≤1024) (hp:pieces s=some l) (hr:R (.or []) l (some (q,[]))) (hm:manyB q=false) (hd:depthN q≤16):PrsR s 0 (some q)
theorem PrsR.det {s:P} {e e':Int} {o o':Option Q} (h:PrsR s e o) (h':PrsR s e' o'):e=e'∧o=o':=by
 have key:∀ {l l':List P} {x x':Option (Q × List P)},pieces s=some l→pieces s=some l'→R (.or []) l x→R (.or []) l' x'→x=x':=fun hp hp' hr hr'=>by
  rw [hp] at hp'
  injection hp' with hp'
  subst hp'
  exact hr.det _ hr'
 cases h with
 | long h=>cases h' with
  | long _=>exact ⟨rfl,rfl⟩
  | _=>omega
 | noPieces h hp=>cases h' with
  | long _=>omega
  | noPieces _ _=>exact ⟨rfl,rfl⟩
  | bad _ _ _=>exact ⟨rfl,rfl⟩
  | left _ _ _ _=>exact ⟨rfl,rfl⟩
  | many _ hp' _ _=>rw [hp] at hp'; cases hp'
  | deep _ hp' _ _ _=>rw [hp] at hp'; cases hp'
  | ok _ hp' _ _ _=>rw [hp] at hp'; cases hp'
 | bad h hp hr=>cases h' with
  | long _=>omega
  | noPieces _ _=>exact ⟨rfl,rfl⟩
  | bad _ _ _=>exact ⟨rfl,rfl⟩
  | left _ _ _ _=>exact ⟨rfl,rfl⟩
  | many _ hp' hr' _=>exact absurd (key hp hp' hr hr') (by simp)
  | deep _ hp' hr' _ _=>exact absurd (key hp hp' hr hr') (by simp)
  | ok _ hp' hr' _ _=>exact absurd (key hp hp' hr hr') (by simp)
 | left h hp hr hl=>cases h' with
  | long _=>omega
  | noPieces _ _=>exact ⟨rfl,rfl⟩
  | bad _ _ _=>exact ⟨rfl,rfl⟩
  | left _ _ _ _=>exact ⟨rfl,rfl⟩
  | many _ hp' hr' _=>have:=key hp hp' hr hr'; simp at this; exact absurd this.2 hl
  | deep _ hp' hr' _ _=>have:=key hp hp' hr hr'; simp at this; exact absurd this.2 hl
  | ok _ hp' hr' _ _=>have:=key hp hp' hr hr'; simp at this; exact absurd this.2 hl
 | many h hp hr hm=>cases h' with
  | long _=>omega
  | noPieces _ hp'=>rw [hp] at hp'; cases hp'
  | bad _ hp' hr'=>exact absurd (key hp hp' hr hr') (by simp)
  | left _ hp' hr' hl=>have:=key hp hp' hr hr'; simp at this; exact absurd this.2 hl
  | many _ _ _ _=>exact ⟨rfl,rfl⟩
  | deep _ hp' hr' hm' _=>have:=key hp hp' hr hr'; simp at this; subst this; rw [hm] at hm'; cases hm'
  | ok _ hp' hr' hm' _=>have:=key hp hp' hr hr'; simp at this; subst this; rw [hm] at hm'; cases hm'
 | deep h hp hr hm hd=>cases h' with
  | long _=>omega
  | noPieces _ hp'=>rw [hp] at hp'; cases hp'
  | bad _ hp' hr'=>exact absurd (key hp hp' hr hr') (by simp)
  | left _ hp' hr' hl=>have:=key hp hp' hr hr'; simp at this; exact absurd this.2 hl
  | many _ hp' hr' hm'=>have:=key hp hp' hr hr'; simp at this; subst this; rw [hm] at hm'; cases hm'
  | deep _ _ _ _ _=>exact ⟨rfl,rfl⟩
  | ok _ hp' hr' _ hd'=>have:=key hp hp' hr hr'; simp at this; subst this; omega
 | ok h hp hr hm hd=>cases h' with
  | long _=>omega
  | noPieces _ hp'=>rw [hp] at hp'; cases hp'
  | bad _ hp' hr'=>exact absurd (key hp hp' hr hr') (by simp)
  | left _ hp' hr' hl=>have:=key hp hp' hr hr'; simp at this; exact absurd this.2 hl
  | many _ hp' hr' hm'=>have:=key hp hp' hr hr'; simp at this; subst this; rw [hm] at hm'; cases hm'
  | deep _ hp' hr' _ hd'=>have:=key hp hp' hr hr'; simp at this; subst this; omega
  | ok _ hp' hr' _ _=>have:=key hp hp' hr hr'; simp at this; subst this; exact ⟨rfl,rfl⟩
end Go.Proofs.YtlfpfkallgkjdaaGreat.Qp
end

section
namespace Go.Proofs.YtlfpfkallgkjdaaGreat.Qp
open Go.RowKit Ut Tk Qy
theorem bad_is (v:Value) (xT:TypeId) (w:World):(Instr.typeAssert (.iface 134 v) xT 134 true).run Tryz.prog w=.ok (.tuple #[v,.bool true]) w:=by
 have hu:=Tryz.underlying134
 simp [Instr.typeAssert,run_underlying hu,go_sem,Result.andThen]
theorem catch_idle (p1 p2:Addr) (w:World) :
  CallsD Tryz.prog 61 #[.pointer (some p1),.pointer (some p2)] .returning w fun e u' w'=>e=.returned (.tuple #[])∧u'=.returning∧w'=w:=by
 refine callsD_of_wpS Tryz.func61 rfl fun c₀ cs hu=>?_
 apply wpS_seq
 apply wpS_region
 simp [wpOpsS,go_sem,recoverD,hu,Tryz.ntmps61,Exit.thenS]
 refine wpS_of_wp ?_
 go_wp2
 cases c₀
 simp_all [bodyPostS,results,Tryz.results61]
set_option maxHeartbeats 1600000 in
theorem catch_bad (b1 b2:Nat) (x0 x1 x2 x3 x4:Value) (z:Int) (older:List PanicEntry) (w:World)
  (h1:Blk w b1 52 #[x0,x1,x2,x3]) (h2:Blk w b2 24 #[x4]) :
  CallsD Tryz.prog 61 #[.pointer (some ⟨b1,0,none⟩),.pointer (some ⟨b2,0,none⟩)] (.panicking ({ v:=.iface 134 (.agg #[.int .i64 z]),recovered:=false } :: older)) w fun e u' w' =>
   e=.returned (.tuple #[])∧u'=.panicking ({ v:=.iface 134 (.agg #[.int .i64 z]),recovered:=true } :: older) ∧
   Blk w' b1 52 #[.int .i64 0,.string ⟨#[]⟩,.slice none 0 0,.slice none 0 0]∧Blk w' b2 24 #[.int .i64 z]∧(∀ B,B≤b1→B≤b2→B≤w.heap.size→Below B w w'):=by
 refine callsD_of_wpS Tryz.func61 rfl fun c₀ cs hu=>?_
 apply wpS_seq
 apply wpS_region
 simp [wpOpsS,go_sem,recoverD,hu,Tryz.ntmps61,Exit.thenS]
 refine wpS_of_wp ?_
 obtain ⟨q0,q1,q2,q3,f0,f1,f2,f3⟩:=h1.four
 have q4:=h2.cell 0
 have f4:=h2.frozen 0
 simp at q4
 have hta:=bad_is
 have hl1:=h1.lt
 have hl2:=h2.lt
 have hne:=h1.ne_ h2 (by decide)
 have hne1:b1≠w.heap.size:=by omega
 have hne2:b2≠w.heap.size:=by omega
 have H1:=zh h1
 have H2:=zh h2
 clear h1 h2
 simp only [show Array.replicate 12 undef=#[undef,undef,undef,undef,undef,undef,undef,undef,undef,undef,undef,undef] from rfl,zD,zF,zE,List.append_toArray,List.cons_append,List.nil_append]
 go_wp2
 go_region
 have g1:=(((H1.out.set4 (.int .i64 0) (.string ⟨#[]⟩) (.slice none 0 0) (.slice none 0 0)).far (p:=⟨b2,0,none⟩) hne (.int .i64 z)).alloc (.cells #[.int .i64 z] 134)).drew
 have g2:Blk (set4 w b1 (.int .i64 0) (.string ⟨#[]⟩) (.slice none 0 0) (.slice none 0 0)) b2 24 #[x4]:=(set4_other w b1 b2 _ _ _ _ (fun e=>hne e.symm)).trans H2.out
 have g3:=((g2.set_ 0 (.int .i64 z)).alloc (.cells #[.int .i64 z] 134)).drew
 have g4:∀ B,B≤b1→B≤b2→B≤w.heap.size→Below B w (((set4 w b1 (.int .i64 0) (.string ⟨#[]⟩) (.slice none 0 0) (.slice none 0 0)).setCell ⟨b2,0,none⟩ (.int .i64 z)).alloc (.cells #[.int .i64 z] 134)).drew:=fun B h1 h2 h3 =>
  ((((below_set4 (Below.refl B w) h1 _ _ _ _).setCell (p:=⟨b2,0,none⟩) h2 _).alloc (by simpa [World.setCell,set4_size] using h3) _).drew)
 unfold set4 at g1 g3 g4
 generalize (World.alloc _ (.cells #[.int .i64 z] 134)).drew=X at *
 rename_i QQ
 simp [QQ,Exit.inBlock,bodyPostS,results,Tryz.results61]
 exact ⟨g1,by simpa using g3,g4⟩
end Go.Proofs.YtlfpfkallgkjdaaGreat.Qp
end

section
namespace Go.Proofs.YtlfpfkallgkjdaaGreat.Qp
open Go.RowKit Ut Tk Qy
def noQ:Q:=.mk 0 ByteArray.empty [] []
def ParPost (w:World) (s:P) (e:Ending) (w':World):Prop :=
 ∃ (E:Int) (o:Option Q) (a0 a1 a2 a3:Value),PrsR s E o∧e=.returned (.tuple #[.agg #[a0,a1,a2,a3],.int .i64 E])∧QF w' (fun b=>w.heap.size≤b∧b<w'.heap.size) (o.getD noQ) [a0,a1,a2,a3]∧Below w.heap.size w w'
theorem noQ_at (w:World) (S:Nat→Prop):QF w S noQ [.int .i64 0,.string ⟨#[]⟩,.slice none 0 0,.slice none 0 0] :=
 .mk (nm:=⟨#[]⟩) [] rfl (by simpa using ReadsS.none_) rfl rfl (by simp) ReadsS.none_ (fun i hi=>absurd hi (by simp))
theorem own_cap {w:World} {base:Nat} {e:TypeId} {size n:Nat} {v:Value} {xs:List Value} (h:w.ownsRow base e size v n xs):∃ A c,v=.slice A n c∧n≤c:=by
 rcases h.2 with ⟨rfl,rfl⟩ | ⟨g,cap,cur,rfl,_,_,hc,_⟩
 ·exact ⟨_,_,rfl,zG _⟩
 ·exact ⟨_,_,rfl,hc⟩
theorem par_results {tmps:Array Value} {W:World} {b1 b2:Nat} {a0 a1 a2 a3:Value} {z:Int} (h1:tmps.getD 2 undef=.pointer (some ⟨b1,0,none⟩)) (h2:tmps.getD 3 undef=.pointer (some ⟨b2,0,none⟩)) (B1:Blk W b1 52 #[a0,a1,a2,a3]) (B2:Blk W b2 24 #[.int .i64 z]) :
  (results Tryz.f34 tmps).run Tryz.prog W=.ok (.tuple #[.agg #[a0,a1,a2,a3],.int .i64 z]) W:=by
 have l1:=run_loadVar_row (P:=Tryz.prog) W b1 52 52 #[a0,a1,a2,a3] (0,0) _ B1 Tryz.underlying52 rfl (by kernel_rfl)
 have l2:(loadVar 24 ⟨b2,0,none⟩).run Tryz.prog W=.ok (.int .i64 z) W:=by
  have c:=B2.cell 0
  simp at c
  simp [go_sem,c]
 have h1':tmps[2]?.getD undef=.pointer (some ⟨b1,0,none⟩):=by simpa using h1
 have h2':tmps[3]?.getD undef=.pointer (some ⟨b2,0,none⟩):=by simpa using h2
 simp [results,Tryz.results34,h1',h2',asAddr,l1,l2]
theorem par_leave {tmps:Array Value} {W:World} {b1 b2:Nat} {a0 a1 a2 a3:Value} {z:Int} {R:Ending→World→Prop} (B1:Blk W b1 52 #[a0,a1,a2,a3]) (B2:Blk W b2 24 #[.int .i64 z]) (h1:tmps.getD 2 undef=.pointer (some ⟨b1,0,none⟩)) (h2:tmps.getD 3 undef=.pointer (some ⟨b2,0,none⟩))
  (hR:R (.returned (.tuple #[.agg #[a0,a1,a2,a3],.int .i64 z])) W):Leaves Tryz.prog Tryz.f34 tmps R [] .returning W:=⟨_,par_results h1 h2 B1 B2,hR⟩
set_option maxHeartbeats 6400000 in
theorem parse_any (s:ByteArray) (w:World):Calls Tryz.prog 34 #[.string s] w (ParPost w s.data.toList):=by
 have hmf:∀ (fn:Fn) (first cap:Array Value) (w:World),(Instr.makeFunc fn first cap).run Tryz.prog w=.ok (.func fn first cap) w:=fun _ _ _ _=>rfl
 by_cases hs : 1024<s.size
 ·have hs':(1024:Int)<(s.size:Int):=by omega
  have HP:=zh (PrsR.long (s:=s.data.toList) (by rw [bsize]; exact hs))
  have hbl:=zh (((Below.refl w.heap.size w).alloc (zG _) (.cells #[.int .i64 0,.string ⟨#[]⟩,.slice none 0 0,.slice none 0 0] 52)).alloc (by simp) (.cells #[.int .i64 2] 24))
  clear hs
  go_enter_defers Tryz.func34,Tryz.ntmps34
  go_wp2
  exact par_leave (Blk.alloc (Blk.new w 52 #[.int .i64 0,.string ⟨#[]⟩,.slice none 0 0,.slice none 0 0]) _) (by have:=Blk.new (w.alloc (.cells #[.int .i64 0,.string ⟨#[]⟩,.slice none 0 0,.slice none 0 0] 52)) 24 #[.int .i64 2]; rw [World.size_alloc] at this; exact this) rfl rfl ⟨2,none,_,_,_,_,HP.out,rfl,noQ_at _ _,hbl.out⟩
 have hs':(s.size:Int)≤1024:=by omega
 have hs1:s.data.toList.length≤1024:=by rw [bsize]; omega
 have c0:=pieces_any s ((w.alloc (.cells #[.int .i64 0,.string ByteArray.empty,.slice none 0 0,.slice none 0 0] 52)).alloc (.cells #[.int .i64 0] 24)) (by omega)
 have hpc:=pieces_pc s.data.toList.length s.data.toList
 have hpm:=pieces_many s.data.toList.length s.data.toList
 have B1:=zh ((Blk.new w 52 #[.int .i64 0,.string ByteArray.empty,.slice none 0 0,.slice none 0 0]).alloc (.cells #[.int .i64 0] 24))
 have B2:Hid (Blk ((w.alloc (.cells #[.int .i64 0,.string ByteArray.empty,.slice none 0 0,.slice none 0 0] 52)).alloc (.cells #[.int .i64 0] 24)) (w.heap.size+1) 24 #[.int .i64 0]):=zh (by have:=Blk.new (w.alloc (.cells #[.int .i64 0,.string ByteArray.empty,.slice none 0 0,.slice none 0 0] 52)) 24 #[.int .i64 0]; rw [World.size_alloc] at this; exact this)
 have Hb:=zh (((Below.refl w.heap.size w).alloc (zG _) (.cells #[.int .i64 0,.string ByteArray.empty,.slice none 0 0,.slice none 0 0] 52)).alloc (by simp) (.cells #[.int .i64 0] 24))
 have hz:(World.heap ((w.alloc (.cells #[.int .i64 0,.string ByteArray.empty,.slice none 0 0,.slice none 0 0] 52)).alloc (.cells #[.int .i64 0] 24))).size=w.heap.size+2:=by simp
 have Hz:=zh hz
 have Hs1:=zh hs1
 clear hz hs hs1
 go_enter_defers Tryz.func34,Tryz.ntmps34
 go_wp2_with fail
 refine c0.mono ?_
 intro e w3 hpost
 clear c0
 match hpp:pieces s.data.toList,hpost with
 | none,hpost =>
  obtain ⟨rfl,hb3⟩:=hpost
  have HP:=zh (PrsR.noPieces Hs1.out hpp)
  have hsz:=hb3.size
  have B13:=B1.out.below hb3 (by rw [Hz.out]; omega)
  have B23:=B2.out.below hb3 (by rw [Hz.out]; omega)
  have Hb3:=zh (Hb.out.trans (hb3.mono (by rw [Hz.out]; omega)))
  obtain ⟨q0,q1,q2,q3,f0,f1,f2,f3⟩:=B13.four
  have q4:=B23.cell 0
  have f4:=B23.frozen 0
  simp at q4
  have B14:=zh ((B13.set4 (.int .i64 0) (.string ⟨#[]⟩) (.slice none 0 0) (.slice none 0 0)).far (p:=⟨w.heap.size+1,0,none⟩) (by simp) (.int .i64 170))
  have B24:Hid (Blk ((set4 w3 w.heap.size (.int .i64 0) (.string ⟨#[]⟩) (.slice none 0 0) (.slice none 0 0)).setCell ⟨w.heap.size+1,0,none⟩ (.int .i64 170)) (w.heap.size+1) 24 #[.int .i64 170]) :=
   zh (by have:=(show Blk (set4 w3 w.heap.size (.int .i64 0) (.string ⟨#[]⟩) (.slice none 0 0) (.slice none 0 0)) (w.heap.size+1) 24 #[.int .i64 0] from (set4_other w3 w.heap.size _ _ _ _ _ (by omega)).trans B23).set_ 0 (.int .i64 170); simpa using this)
  have Hb4:=zh ((below_set4 Hb3.out (zG _) (.int .i64 0) (.string ⟨#[]⟩) (.slice none 0 0) (.slice none 0 0)).setCell (p:=⟨w.heap.size+1,0,none⟩) (by simp) (.int .i64 170))
  clear hb3 hsz B13 B23 hpc hpm hpp
  go_wp2_with fail
  exact par_leave B14.out B24.out rfl rfl ⟨170,none,_,_,_,_,HP.out,rfl,noQ_at _ _,Hb4.out⟩
 | some l,hpost =>
  obtain ⟨v,rfl,hown,hb3⟩:=hpost
  rw [Hz.out] at hown
  obtain ⟨A,c,rfl,hnc⟩:=own_cap hown
  have hR0:=ReadsS.of_own hown
  have hsz:w.heap.size+2≤w3.heap.size:=by have:=hb3.size; rw [Hz.out] at this; exact this
  have B13:=B1.out.below hb3 (by rw [Hz.out]; omega)
  have B23:=B2.out.below hb3 (by rw [Hz.out]; omega)
  have Hb3:=Hb.out.trans (hb3.mono (by rw [Hz.out]; omega))
  have hbx:=(Below.refl w3.heap.size w3).alloc (zG _) (.cells #[.slice A l.length c] 139)
  have hpa:PcAll l:=fun x hx=>by have:=hpc l (zG _) hpp x hx; exact ⟨this.1,by have:=this.2; have:=Hs1.out; omega⟩
  have hlm:l.length≤1024:=by have:=hpm l (zG _) hpp; have:=Hs1.out; omega
  have hRd:Rd w3.heap.size (w3.alloc (.cells #[.slice A l.length c] 139)) w3.heap.size l :=
   ⟨⟨A,_,c,Blk.new _ _ _,rfl,hnc,(hR0.keep fun b o hS=>hbx.cell (p:=⟨b,o,none⟩) hS.2.1).mono fun b hS=>⟨hS.2.1,by have:=hS.2.1; omega⟩⟩,by rw [World.size_alloc]; omega,fun x hx=>(hpa x hx).1.ne,by omega⟩
  have c1:=(all_ok l.length l (zG _) hpa).2.2 w3.heap.size _ w3.heap.size hRd
  have HB14:=zh (B13.alloc (.cells #[.slice A l.length c] 139))
  have HB24:=zh (B23.alloc (.cells #[.slice A l.length c] 139))
  have Hb4:=zh (Hb3.alloc (by omega) (.cells #[.slice A l.length c] 139))
  have hsz4:(w3.alloc (.cells #[.slice A l.length c] 139)).heap.size=w3.heap.size+1:=by simp
  have Hsz4:=zh hsz4
  have Hpp:=zh hpp
  have Hpa:=zh hpa
  clear hown hR0 B13 B23 Hb3 hbx hb3 hpa hRd hpc hpm hpp B1 B2 Hb hsz4
  go_wp2_with fail
  refine c1.mono ?_
  rintro e w5 ⟨o,hRo,hpost⟩
  have HRo:=zh hRo
  clear c1 hRo
  match o,hpost,HRo with
  | none,hpost,HRo =>
   obtain ⟨rfl,hg5⟩:=hpost
   have B15:=HB14.out.keep4 hg5 (by omega)
   have B25:=HB24.out.keep4 hg5 (by omega)
   have Hb5:=below_of_grown Hb4.out hg5 (by omega)
   unfold badE
   refine leaves_cons (f:=61) (args:=#[.pointer (some ⟨w.heap.size,0,none⟩),.pointer (some ⟨w.heap.size+1,0,none⟩)]) (by simp) (by simp [go_sem]) ?_
   refine (catch_bad w.heap.size (w.heap.size+1) _ _ _ _ _ 170 [] _ B15 B25).mono ?_
   rintro e u' w9 ⟨rfl,rfl,g1,g2,g3⟩
   exact par_leave g1 g2 rfl rfl ⟨170,none,_,_,_,_,PrsR.bad Hs1.out Hpp.out HRo.out,rfl,noQ_at _ _,(Hb5).trans (g3 w.heap.size (zG _) (by omega) (Hb5).size)⟩
  | some (q,r),hpost,HRo =>
   obtain ⟨a0,a1,a2,a3,rfl,hF,hR5,hg5⟩:=hpost
   have B15:=HB14.out.keep4 hg5 (by omega)
   have B25:=HB24.out.keep4 hg5 (by omega)
   have Hb5:=below_of_grown Hb4.out hg5 (by omega)
   have hsz5:w3.heap.size+1≤w5.heap.size:=by have:=hg5.size; rw [Hsz4.out] at this; exact this
   obtain ⟨K,hK,hQW⟩:=or_wide HRo.out (fun x hx=>(Hpa.out x hx).2) (by omega)
   obtain ⟨A',n',c',C',m',d',e4⟩:=hF.four
   simp only [List.cons.injEq,and_true] at e4
   obtain ⟨rfl,rfl,rfl,rfl⟩:=e4
   obtain ⟨q0,q1,q2,q3,f0,f1,f2,f3⟩:=B15.four
   rw [Hsz4.out] at hF
   have HF6:Hid (QF (set4 w5 w.heap.size (.int .i64 q.kind) (.string q.name) (.slice A' n' c') (.slice C' m' d')) (fun b=>w3.heap.size+1≤b∧b<(set4 w5 w.heap.size (.int .i64 q.kind) (.string q.name) (.slice A' n' c') (.slice C' m' d')).heap.size) q [.int .i64 q.kind,.string q.name,.slice A' n' c',.slice C' m' d']):=zh
    ((hF.keep fun b _ hS=>World.cell?_of_block (w:=w5) (set4_other w5 w.heap.size b _ _ _ _ (by have:=hS.1; omega))).mono fun b hS=>⟨hS.1,by rw [set4_size]; exact hS.2⟩)
   have HB16:=zh (B15.set4 (.int .i64 q.kind) (.string q.name) (.slice A' n' c') (.slice C' m' d'))
   have HB26:Hid (Blk (set4 w5 w.heap.size (.int .i64 q.kind) (.string q.name) (.slice A' n' c') (.slice C' m' d')) (w.heap.size+1) 24 #[.int .i64 0]):=zh ((set4_other w5 w.heap.size _ _ _ _ _ (by omega)).trans B25)
   have hg6:=grownBy_set4 w5 w.heap.size (.int .i64 q.kind) (.string q.name) (.slice A' n' c') (.slice C' m' d')
   obtain ⟨A2,n2,c2,hBr,hn2,_,_⟩:=hR5.ex
   have hBr6:Blk (set4 w5 w.heap.size (.int .i64 q.kind) (.string q.name) (.slice A' n' c') (.slice C' m' d')) w3.heap.size 139 #[.slice A2 n2 c2]:=(set4_other w5 w.heap.size _ _ _ _ _ (by omega)).trans hBr
   have Hb6:=zh (below_set4 Hb5 (zG _) (.int .i64 q.kind) (.string q.name) (.slice A' n' c') (.slice C' m' d'))
   have hsz6:=set4_size w5 w.heap.size (.int .i64 q.kind) (.string q.name) (.slice A' n' c') (.slice C' m' d')
   have HQW:=zh hQW
   clear hF hR5 hg5 B15 B25 Hb5 hg6 hBr HB14 HB24 Hb4 hQW
   go_wp2_with fail
   have ew:set4 w5 w.heap.size (.int .i64 q.kind) (.string q.name) (.slice A' n' c') (.slice C' m' d')=(((w5.setCell ⟨w.heap.size,0,none⟩ (.int .i64 q.kind)).setCell ⟨w.heap.size,1,none⟩ (.string q.name)).setCell ⟨w.heap.size,2,none⟩ (.slice A' n' c')).setCell ⟨w.heap.size,3,none⟩ (.slice C' m' d'):=rfl
   rw [← ew]
   clear ew q0 q1 q2 q3 f0 f1 f2 f3
   generalize set4 w5 w.heap.size (.int .i64 q.kind) (.string q.name) (.slice A' n' c') (.slice C' m' d')=w6 at *
   have hl6:w3.heap.size<w6.heap.size:=by omega
   have hcells:∀ wx,Below w6.heap.size w6 wx→wx.cell? ⟨w3.heap.size,0,none⟩=some (.slice A2 n2 c2):=fun wx hb=>by
    rw [hb.cell (p:=⟨w3.heap.size,0,none⟩) hl6]; exact hBr6.cell 0
   have Hcells:=zh hcells
   clear hcells hBr6
   by_cases h0:r=[]
   case' neg =>
    have hn2':((n2:Int) == 0)=false:=by
     have:=List.length_pos_iff.2 h0
     rw [beq_eq_false_iff_ne]; omega
    have HP:=zh (PrsR.left Hs1.out Hpp.out HRo.out h0)
    clear h0 hn2
    refine wp_region_grow_tail 10 (specOf []) (fun wx=>Below w6.heap.size w6 wx) (fun w1 w2=>Below w1.heap.size w1 w2) (by kernel_rfl) (by kernel_rfl) (stab_nil) ((Below.refl _ _).drew) ?_
    simp only [List.take_succ_cons,List.take_zero,List.drop_succ_cons,List.drop_zero]
    iterate 10
     refine grow_fix _ ?_ rfl (by rfl) (by rfl) (fun wx hC hD=>?_) ?_
     rotate_left
     ·have hSw:=Hcells.out wx hC
      go_simp
      all_goals with_reducible rfl
     try simp only [Act.put,zD,zE,zF]
    refine grow_nil (fun wn hC hF=>?_)
    have hbn:=zh hC
    clear hF hC
    go_wp2_with (go_at_call 63; refine (must_no _ _).mono ?_; rintro e w' ⟨rfl,rfl⟩)
    have hz6:w.heap.size+1<w6.heap.size:=by omega
    have B17:=HB16.out.below hbn.out (by omega)
    have B27:=HB26.out.below hbn.out hz6
    have Hb7:=Hb6.out.trans (hbn.out.mono (by omega))
    refine leaves_cons (f:=61) (args:=#[.pointer (some ⟨w.heap.size,0,none⟩),.pointer (some ⟨w.heap.size+1,0,none⟩)]) (by simp) (by simp [go_sem]) ?_
    refine (catch_bad w.heap.size (w.heap.size+1) _ _ _ _ _ 170 [] _ B17 B27).mono ?_
    rintro e u' w9 ⟨rfl,rfl,g1,g2,g3⟩
    exact par_leave g1 g2 rfl rfl ⟨170,none,_,_,_,_,HP.out,rfl,noQ_at _ _,(Hb7).trans (g3 w.heap.size (zG _) (by omega) (Hb7).size)⟩
   case' pos =>
    subst h0
    obtain rfl:n2=0:=by simpa using hn2.symm
    clear hn2
    refine wp_region_grow_tail 10 (specOf []) (fun wx=>Below w6.heap.size w6 wx) (fun w1 w2=>Below w1.heap.size w1 w2) (by kernel_rfl) (by kernel_rfl) (stab_nil) ((Below.refl _ _).drew) ?_
    simp only [List.take_succ_cons,List.take_zero,List.drop_succ_cons,List.drop_zero]
    iterate 10
     refine grow_fix _ ?_ rfl (by rfl) (by rfl) (fun wx hC hD=>?_) ?_
     rotate_left
     ·have hSw:=Hcells.out wx hC
      go_simp
      all_goals with_reducible rfl
     try simp only [Act.put,zD,zE,zF]
    refine grow_nil (fun wn hC hF=>?_)
    have hbn:=zh hC
    clear hF hC
    have hz6:w.heap.size+1<w6.heap.size:=by omega
    have B17:=HB16.out.below hbn.out (by omega)
    have B27:=HB26.out.below hbn.out hz6
    have Hb7:=Hb6.out.trans (hbn.out.mono (by omega))
    have HF7:QF wn (fun b=>w3.heap.size+1≤b∧b<wn.heap.size) q [.int .i64 q.kind,.string q.name,.slice A' n' c',.slice C' m' d']:=HF6.out.grow hbn.out
    have hszn:=hbn.out.size
    have c8:=many_go HQW.out wn _ _ _ _ (HF7.at_ fun b hS=>hS.2)
    obtain ⟨q0,q1,q2,q3,f0,f1,f2,f3⟩:=B17.four
    have HB17:=zh B17
    have HB27:=zh B27
    have HF7':=zh HF7
    have HB7:=zh Hb7
    clear B17 B27 HF7 Hb7 HB16 HB26 HF6 Hb6 Hcells hbn
    go_wp2_with (first
     | (go_at_call 63; refine (must_yes _ _).mono ?_; rintro e w' ⟨rfl,rfl⟩))
    refine c8.mono ?_
    rintro e w8 ⟨rfl,hb8⟩
    clear c8 q0 q1 q2 q3 f0 f1 f2 f3
    have HB18:=HB17.out.below hb8 (by omega)
    have HB28:=HB27.out.below hb8 (by omega)
    have Hb8:=zh (HB7.out.trans (hb8.mono (by omega)))
    have HF8:=zh (HF7'.out.grow hb8)
    have hsz8:=hb8.size
    clear hb8 HB17 HB27 HF7' HB7
    cases hmq:manyB q with
    | true =>
     have HP:=zh (PrsR.many Hs1.out Hpp.out HRo.out hmq)
     obtain ⟨q0,q1,q2,q3,f0,f1,f2,f3⟩:=HB18.four
     have q4:=HB28.cell 0
     have f4:=HB28.frozen 0
     simp at q4
     have BW1:=zh ((HB18.set4 (.int .i64 0) (.string ⟨#[]⟩) (.slice none 0 0) (.slice none 0 0)).far (p:=⟨w.heap.size+1,0,none⟩) (by simp) (.int .i64 3))
     have BW2:Hid (Blk ((set4 w8 w.heap.size (.int .i64 0) (.string ⟨#[]⟩) (.slice none 0 0) (.slice none 0 0)).setCell ⟨w.heap.size+1,0,none⟩ (.int .i64 3)) (w.heap.size+1) 24 #[.int .i64 3]) :=
      zh (by have:=(show Blk (set4 w8 w.heap.size (.int .i64 0) (.string ⟨#[]⟩) (.slice none 0 0) (.slice none 0 0)) (w.heap.size+1) 24 #[.int .i64 0] from (set4_other w8 w.heap.size _ _ _ _ _ (by omega)).trans HB28).set_ 0 (.int .i64 3); simpa using this)
     have BWb:=zh ((below_set4 Hb8.out (zG _) (.int .i64 0) (.string ⟨#[]⟩) (.slice none 0 0) (.slice none 0 0)).setCell (p:=⟨w.heap.size+1,0,none⟩) (by simp) (.int .i64 3))
     clear HB18 HB28 hmq
     go_wp2_with fail
     refine leaves_cons (f:=61) (args:=#[.pointer (some ⟨w.heap.size,0,none⟩),.pointer (some ⟨w.heap.size+1,0,none⟩)]) (by simp) (by simp [go_sem]) ?_
     refine (catch_idle ⟨w.heap.size,0,none⟩ ⟨w.heap.size+1,0,none⟩ _).mono ?_
     rintro e u' w9 ⟨rfl,rfl,rfl⟩
     exact par_leave BW1.out BW2.out rfl rfl ⟨3,none,_,_,_,_,HP.out,rfl,noQ_at _ _,BWb.out⟩
    | false =>
     have Hmq:=zh hmq
     have c9:=depth_go HQW.out hK w8 _ _ _ _ (HF8.out.at_ fun b hS=>hS.2)
     obtain ⟨q0,q1,q2,q3,f0,f1,f2,f3⟩:=HB18.four
     have hK2:depthN q≤16777216:=Nat.le_trans HQW.out.depth hK
     have H1:=zh HB18
     have H2:=zh HB28
     clear hmq HB18 HB28
     go_wp2_with fail
     refine c9.mono ?_
     rintro e wd ⟨rfl,hbd⟩
     clear c9 q0 q1 q2 q3 f0 f1 f2 f3
     have BD1:=H1.out.below hbd (by omega)
     have BD2:=H2.out.below hbd (by omega)
     have Hbd:=zh (Hb8.out.trans (hbd.mono (by omega)))
     have HFd:=zh (HF8.out.grow hbd)
     clear hbd H1 H2 HF8 Hb8
     by_cases hdp : 16<depthN q
     ·have hdp':(16:Int)<(depthN q:Int):=by omega
      have HP:=zh (PrsR.deep Hs1.out Hpp.out HRo.out Hmq.out hdp)
      clear hdp
      generalize depthN q=dq at *
      obtain ⟨q0,q1,q2,q3,f0,f1,f2,f3⟩:=BD1.four
      have q4:=BD2.cell 0
      have f4:=BD2.frozen 0
      simp at q4
      have BW1:=zh ((BD1.set4 (.int .i64 0) (.string ⟨#[]⟩) (.slice none 0 0) (.slice none 0 0)).far (p:=⟨w.heap.size+1,0,none⟩) (by simp) (.int .i64 171))
      have BW2:Hid (Blk ((set4 wd w.heap.size (.int .i64 0) (.string ⟨#[]⟩) (.slice none 0 0) (.slice none 0 0)).setCell ⟨w.heap.size+1,0,none⟩ (.int .i64 171)) (w.heap.size+1) 24 #[.int .i64 171]) :=
       zh (by have:=(show Blk (set4 wd w.heap.size (.int .i64 0) (.string ⟨#[]⟩) (.slice none 0 0) (.slice none 0 0)) (w.heap.size+1) 24 #[.int .i64 0] from (set4_other wd w.heap.size _ _ _ _ _ (by omega)).trans BD2).set_ 0 (.int .i64 171); simpa using this)
      have BWb:=zh ((below_set4 Hbd.out (zG _) (.int .i64 0) (.string ⟨#[]⟩) (.slice none 0 0) (.slice none 0 0)).setCell (p:=⟨w.heap.size+1,0,none⟩) (by simp) (.int .i64 171))
      clear BD1 BD2
      go_wp2_with fail
      refine leaves_cons (f:=61) (args:=#[.pointer (some ⟨w.heap.size,0,none⟩),.pointer (some ⟨w.heap.size+1,0,none⟩)]) (by simp) (by simp [go_sem]) ?_
      refine (catch_idle ⟨w.heap.size,0,none⟩ ⟨w.heap.size+1,0,none⟩ _).mono ?_
      rintro e u' w9 ⟨rfl,rfl,rfl⟩
      exact par_leave BW1.out BW2.out rfl rfl ⟨171,none,_,_,_,_,HP.out,rfl,noQ_at _ _,BWb.out⟩
     ·have hdp':(depthN q:Int)≤16:=by omega
      have HP:=zh (PrsR.ok Hs1.out Hpp.out HRo.out Hmq.out (by omega))
      clear hdp
      generalize depthN q=dq at *
      obtain ⟨q0,q1,q2,q3,f0,f1,f2,f3⟩:=BD1.four
      have q4:=BD2.cell 0
      have f4:=BD2.frozen 0
      simp at q4
      have BW1:=zh ((BD1.set4 (.int .i64 q.kind) (.string q.name) (.slice A' n' c') (.slice C' m' d')).far (p:=⟨w.heap.size+1,0,none⟩) (by simp) (.int .i64 0))
      have BW2:Hid (Blk ((set4 wd w.heap.size (.int .i64 q.kind) (.string q.name) (.slice A' n' c') (.slice C' m' d')).setCell ⟨w.heap.size+1,0,none⟩ (.int .i64 0)) (w.heap.size+1) 24 #[.int .i64 0]) :=
       zh (by have:=(show Blk (set4 wd w.heap.size (.int .i64 q.kind) (.string q.name) (.slice A' n' c') (.slice C' m' d')) (w.heap.size+1) 24 #[.int .i64 0] from (set4_other wd w.heap.size _ _ _ _ _ (by omega)).trans BD2).set_ 0 (.int .i64 0); simpa using this)
      have BWb:=zh ((below_set4 Hbd.out (zG _) (.int .i64 q.kind) (.string q.name) (.slice A' n' c') (.slice C' m' d')).setCell (p:=⟨w.heap.size+1,0,none⟩) (by simp) (.int .i64 0))
      have HFe:Hid (QF ((set4 wd w.heap.size (.int .i64 q.kind) (.string q.name) (.slice A' n' c') (.slice C' m' d')).setCell ⟨w.heap.size+1,0,none⟩ (.int .i64 0)) (fun b=>w.heap.size≤b∧b<((set4 wd w.heap.size (.int .i64 q.kind) (.string q.name) (.slice A' n' c') (.slice C' m' d')).setCell ⟨w.heap.size+1,0,none⟩ (.int .i64 0)).heap.size) q [.int .i64 q.kind,.string q.name,.slice A' n' c',.slice C' m' d']):=zh
       ((HFd.out.keep fun b o hS=>World.cell?_of_block (w:=wd) ((Below.heap_setCell _ ⟨w.heap.size+1,0,none⟩ _ b (by show b≠w.heap.size+1; have:=hS.1; omega)).trans (set4_other wd w.heap.size b _ _ _ _ (by have:=hS.1; omega)))).mono fun b hS=>⟨by have:=hS.1; omega,by simpa [World.setCell,set4_size] using hS.2⟩)
      clear BD1 BD2
      go_wp2_with fail
      refine leaves_cons (f:=61) (args:=#[.pointer (some ⟨w.heap.size,0,none⟩),.pointer (some ⟨w.heap.size+1,0,none⟩)]) (by simp) (by simp [go_sem]) ?_
      refine (catch_idle ⟨w.heap.size,0,none⟩ ⟨w.heap.size+1,0,none⟩ _).mono ?_
      rintro e u' w9 ⟨rfl,rfl,rfl⟩
      exact par_leave BW1.out BW2.out rfl rfl ⟨0,some q,_,_,_,_,HP.out,rfl,HFe.out,BWb.out⟩
end Go.Proofs.YtlfpfkallgkjdaaGreat.Qp
end
