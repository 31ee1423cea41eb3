/- loggiaref32.Put: the walk (printed by gen_alo.py). -/
import Derived.Deep.QuietTactic
import Derived.Test.YtlfpfkallgkjdaaGreatQAlertRunsRow34
import Derived.Test.YtlfpfkallgkjdaaGreatQAlertRunsRow32
import Derived.Test.YtlfpfkallgkjdaaGreatQAlertRunsRow39
import Derived.Test.YtlfpfkallgkjdaaGreatQAlertRunsRow1
import Derived.Test.YtlfpfkallgkjdaaGreatQAlertRunsRow43
import Derived.Test.YtlfpfkallgkjdaaGreatQAlertRunsRow42
import Derived.Test.YtlfpfkallgkjdaaGreatQAlertRunsRow27
import Derived.Test.YtlfpfkallgkjdaaGreatQAlertRunsRow15
import Derived.Test.YtlfpfkallgkjdaaGreatQAlertRunsRow0
set_option linter.unusedSimpArgs false
set_option linter.unusedVariables false
set_option maxRecDepth 40000
section
namespace Go.Proofs.YtlfpfkallgkjdaaGreat.Al
open Go.RowKit Go.Maps Ut Tk Qy Qp Ev Mv Rg
theorem kept_info:(Tryz.prog.info? 113).map (fun i=>(i.zero,i.size,i.bytes))=some (some (.agg #[.int .i64 0,.string ByteArray.empty,.int .i64 0,.string ByteArray.empty,.slice none 0 0,.slice none 0 0]),6,96):=by kernel_rfl
def RPutP (w:World) (l:List (Int × Kp)) (i:Int) (s:ByteArray) (e:Ending) (w':World):Prop :=
 ∃ E l' A n c O,PutR l i s E l'∧e=.returned (.tuple #[.agg #[.slice A n c],.int .i64 E])∧RIs O l'∧RAt w' A n c O∧Below w.heap.size w w'
theorem rput_fin {w wz w3 w5:World} {A:Option Addr} {n c p q m rb:Nat} {O:List Rk} {x:Rk} {v:Value} {l l':List (Int × Kp)} {i:Int} {s:ByteArray} (hp:PutR l i s 0 l') (h:RAt w A n c O) (hw5:Below w.heap.size w w5) (hrb:w.heap.size≤rb) (hz:rb<wz.heap.size) (hz3:wz.heap.size≤w3.heap.size)
  (hR:Row 113 6 wz.heap.size wz w5 v m ((O.take p).flatMap encR ++ encR x ++ (O.drop q).flatMap encR)) (hx:QF w3 (fun b=>rb<b∧b<w3.heap.size) x.1.2.q (qC x)) (h35:Below w3.heap.size w3 w5) (hm:m=p+1+(n - q)) (hpn:p≤n) (hqn:q≤n)
  (hl:(O.take p ++ [x] ++ O.drop q).map (·.1)=l') (u:Value):∃ A' c',v=.slice A' m c'∧RPutP w l i s (.returned (.tuple #[.agg #[.slice A' m c'],.int .i64 0])) (w5.setCell ⟨rb,0,none⟩ u):=by
 have hg:=grownBy_set w5 rb 0 u
 have hb6:Below w.heap.size w (w5.setCell ⟨rb,0,none⟩ u):=hw5.grown hg hw5.size (fun b hb=>by injection hb with hb; omega)
 have ho6:=hR.own.kept hg (by cases hv:v.ownBlock with | none=>exact .inl rfl | some g=>exact .inr (fun e=>by injection e with e; have:=(hR.own.lt g hv).1; omega))
 obtain ⟨A',c',rfl,_,hc,hnl,_⟩:=Ev.own_shape2 ho6
 refine ⟨A',c',rfl,0,l',A',m,c',O.take p ++ [x] ++ O.drop q,hp,rfl,hl,⟨?_,?_,hc,hnl,fun y hy=>?_⟩,hb6⟩
 ·have:=reads_sc (ReadsS.of_own ho6) (by decide)
  rw [List.flatMap_append,List.flatMap_append]
  simpa using this
 ·have:=h.ln
  simp only [List.length_append,List.length_take,List.length_drop,List.length_cons,List.length_nil]
  omega
 ·have old:∀ y∈O,QF (w5.setCell ⟨rb,0,none⟩ u) (Sc (w5.setCell ⟨rb,0,none⟩ u)) y.1.2.q (qC y):=fun y hy=>(h.below hb6).qs y hy
  rcases List.mem_append.1 hy with hy | hy
  ·rcases List.mem_append.1 hy with hy | hy
   ·exact old y (List.mem_of_mem_take hy)
   ·rw [List.mem_singleton] at hy
    subst hy
    refine qf_sc (hx.keep (fun b o hb=>?_))
    have e1:(w5.setCell ⟨rb,0,none⟩ u).heap[b]?=w5.heap[b]?:=Below.heap_setCell w5 ⟨rb,0,none⟩ u b (by show b≠rb; omega)
    exact (cell_same e1 o).trans (h35.cell (p:=⟨b,o,none⟩) hb.2)
  ·exact old y (List.mem_of_mem_drop hy)
theorem rput_stay {w w':World} {A:Option Addr} {n c:Nat} {O:List Rk} {l:List (Int × Kp)} {i E:Int} {s:ByteArray} (h:RAt w A n c O) (hl:RIs O l) (hp:PutR l i s E l) (hb:Below w.heap.size w w'):RPutP w l i s (.returned (.tuple #[.agg #[.slice A n c],.int .i64 E])) w':=⟨E,l,A,n,c,O,hp,rfl,hl,h.below hb,hb⟩
theorem put_is {O:List Rk} {l:List (Int × Kp)} (hl:RIs O l) (i:Int) (k:Kp) (a b:Sl):(O.take (pos l i) ++ [((i,k),a,b)] ++ O.drop (pos l i+(if (get l i).isSome=true then 1 else 0))).map (·.1)=put l i k:=by
 unfold put
 rw [List.map_append,List.map_append,List.map_take,List.map_drop,show O.map (·.1)=l from hl]
 simp
set_option maxHeartbeats 12800000 in
theorem rput_any (A:Option Addr) (n c:Nat) (O:List Rk) (l:List (Int × Kp)) (i:Int) (hi:I64 i) (s:ByteArray) (w:World) (h:RAt w A n c O) (hl:RIs O l) (hu:UpI l) (hn:n≤1000) :
  Calls Tryz.prog 55 #[.agg #[.slice A n c],.int .i64 i,.string s] w (RPutP w l i s):=by
 obtain ⟨i0,hi0,hz0,hz1,hz2⟩:=info_parts kept_info
 have hb1:Below w.heap.size w (w.alloc (.cells #[.slice A n c] 41)):=(Below.refl _ _).alloc (zG _) _
 have hsz1:(w.alloc (.cells #[.slice A n c] 41)).heap.size=w.heap.size+1:=by simp
 have hb2:Below (w.alloc (.cells #[.slice A n c] 41)).heap.size (w.alloc (.cells #[.slice A n c] 41)) ((w.alloc (.cells #[.slice A n c] 41)).alloc (.cells #[.slice none 0 0] 41)):=(Below.refl _ _).alloc (zG _) _
 have hX1:=(Blk.new w 41 #[.slice A n c]).below hb2 (by omega)
 have hX2:=Blk.new (w.alloc (.cells #[.slice A n c] 41)) 41 #[.slice none 0 0]
 rw [hsz1] at hX2
 have hbb:=hb1.trans (hb2.mono (by omega))
 have HX1:=zh hX1
 have HX2:=zh hX2
 have HB:=zh hbb
 have H:=zh h
 have HL:=zh hl
 have HU:=zh hu
 have Hnil:=zh h.nl
 have hcap:=h.cap
 have hln:=h.ln
 have hll:=hl.len
 clear h hl hu hb1 hb2 hX1 hX2 hbb hsz1
 by_cases hr:i<0∨999999<i
 ·have HP:=zh (PutR.arg (l:=l) (s:=s) hr)
  have HFIN:Hid (∀ w2,Below w.heap.size w w2→RPutP w l i s (.returned (.tuple #[.agg #[.slice A n c],.int .i64 1])) w2):=zh (fun w2 hb=>rput_stay H.out HL.out HP.out hb)
  have hdec:(i<0)∨(¬ i<0∧999999<i):=by omega
  clear hr
  go_enter Tryz.func55,Tryz.ntmps55
  go_upto_region 1 with (fail)
  generalize ((w.alloc (.cells #[.slice A n c] 41)).alloc (.cells #[.slice none 0 0] 41))=w1 at *
  have q0:=HX1.out.cell 0
  simp only [zA,zB] at q0
  have hX3:Hid (Blk (w1.setCell ⟨w.heap.size+1,0,none⟩ (.slice A n c)) (w.heap.size+1) 41 #[.slice A n c]):=zh (by simpa using HX2.out.set_ 0 (.slice A n c))
  have hB3:Hid (Below w.heap.size w (w1.setCell ⟨w.heap.size+1,0,none⟩ (.slice A n c))):=zh (HB.out.grown (grownBy_set w1 _ 0 _) HB.out.size (fun b hb=>by injection hb with hb; omega))
  have z0:=HX2.out.frozen 0
  have z1:=HX2.out.cell 0
  simp only [zA,zB] at z1
  rcases hdec with hd | ⟨hd,hd2⟩
  ·go_wp2
   refine bodyPost_ret (Mx.results_ct rfl rfl (run_loadVar_row _ (w.heap.size+1) 41 41 #[.slice A n c] (0,0) _ hX3.out Tryz.underlying41 rfl (by kernel_rfl))) rfl ?_
   exact HFIN.out _ hB3.out
  ·go_wp2
   refine bodyPost_ret (Mx.results_ct rfl rfl (run_loadVar_row _ (w.heap.size+1) 41 41 #[.slice A n c] (0,0) _ hX3.out Tryz.underlying41 rfl (by kernel_rfl))) rfl ?_
   exact HFIN.out _ hB3.out
 have hr' : 0≤i∧i≤999999:=by omega
 have HR:=zh hr'
 have hd:¬ i<0:=by omega
 have hd2:¬ 999999<i:=by omega
 clear hr hr'
 go_enter Tryz.func55,Tryz.ntmps55
 go_upto_region 1 with (fail)
 generalize ((w.alloc (.cells #[.slice A n c] 41)).alloc (.cells #[.slice none 0 0] 41))=w1 at *
 go_wp2_with fail
 refine (parse_rf s _).mono ?_
 rintro e w2 ⟨E,o,a0,a1,a2,a3,hp,rfl,hF,hb2⟩
 obtain ⟨A1,n1,c1,A2,n2,c2,e4⟩:=hF.four
 simp only [List.cons.injEq,and_true] at e4
 obtain ⟨rfl,rfl,rfl,rfl⟩:=e4
 have HX12:=zh (HX1.out.below hb2 HX1.out.lt)
 have HX22:=zh (HX2.out.below hb2 HX2.out.lt)
 have hs1:=HB.out.size
 have HB2:=zh (HB.out.trans (hb2.mono hs1))
 have hs2:=HB2.out.size
 have hx2l:=HX2.out.lt
 have hs12:=hb2.size
 have hba:Below w2.heap.size w2 (w2.alloc (.cells #[.int .i64 (o.getD noQ).kind,.string (o.getD noQ).name,.slice A1 n1 c1,.slice A2 n2 c2] 52)):=(Below.refl _ _).alloc (zG _) _
 have HB3:=zh (HB2.out.trans (hba.mono hs2))
 have HX13:=zh (HX12.out.below hba HX12.out.lt)
 have HX23:=zh (HX22.out.below hba HX22.out.lt)
 have HBQ:=zh (Blk.new w2 52 #[.int .i64 (o.getD noQ).kind,.string (o.getD noQ).name,.slice A1 n1 c1,.slice A2 n2 c2])
 have HF3:Hid (QF (w2.alloc (.cells #[.int .i64 (o.getD noQ).kind,.string (o.getD noQ).name,.slice A1 n1 c1,.slice A2 n2 c2] 52)) (fun b=>w.heap.size+1<b∧b<w2.heap.size) (o.getD noQ) [.int .i64 (o.getD noQ).kind,.string (o.getD noQ).name,.slice A1 n1 c1,.slice A2 n2 c2]):=zh ((hF.keep (fun b o hb=>hba.cell (p:=⟨b,o,none⟩) hb.2)).mono (fun b hb=>⟨by omega,hb.2⟩))
 have hszq:w2.heap.size<(w2.alloc (.cells #[.int .i64 (o.getD noQ).kind,.string (o.getD noQ).name,.slice A1 n1 c1,.slice A2 n2 c2] 52)).heap.size:=by simp
 have HP:=zh hp
 clear hF hba hb2 HX12 HX22 HX1 HX2 HB hp
 cases o with
 | none =>
  have hE:=prs_none HP.out
  have hE2:(E != 0)=true:=by simpa using hE
  have HFIN:Hid (∀ w2,Below w.heap.size w w2→RPutP w l i s (.returned (.tuple #[.agg #[.slice A n c],.int .i64 E])) w2):=zh (fun w2 hb=>rput_stay H.out HL.out (PutR.bad HR.out HP.out) hb)
  clear HF3
  generalize ((none:Option Q).getD noQ).kind=z1 at *
  generalize ((none:Option Q).getD noQ).name=z2 at *
  go_upto_region 4 with (fail)
  generalize w2.alloc (.cells #[.int .i64 z1,.string z2,.slice A1 n1 c1,.slice A2 n2 c2] 52)=w3 at *
  have q0:=HX13.out.cell 0
  simp only [zA,zB] at q0
  have hX3:Hid (Blk (w3.setCell ⟨w.heap.size+1,0,none⟩ (.slice A n c)) (w.heap.size+1) 41 #[.slice A n c]):=zh (by simpa using HX23.out.set_ 0 (.slice A n c))
  have hB3:Hid (Below w.heap.size w (w3.setCell ⟨w.heap.size+1,0,none⟩ (.slice A n c))):=zh (HB3.out.grown (grownBy_set w3 _ 0 _) HB3.out.size (fun b hb=>by injection hb with hb; omega))
  have z0:=HX23.out.frozen 0
  have z1:=HX23.out.cell 0
  simp only [zA,zB] at z1
  go_wp2
  refine bodyPost_ret (Mx.results_ct rfl rfl (run_loadVar_row _ (w.heap.size+1) 41 41 #[.slice A n c] (0,0) _ hX3.out Tryz.underlying41 rfl (by kernel_rfl))) rfl ?_
  exact HFIN.out _ hB3.out
 | some q =>
  obtain ⟨rfl,_,hq⟩:=prs_ok HP.out
  simp only [Option.getD_some] at HB3 HX13 HX23 HBQ HF3 hszq ⊢
  generalize hqk:q.kind=qk at *
  generalize hqn:q.name=qn at *
  have HKK:=zh (And.intro hqk hqn)
  clear hqk hqn
  go_upto_region 6 with (fail)
  generalize w2.alloc (.cells #[.int .i64 qk,.string qn,.slice A1 n1 c1,.slice A2 n2 c2] 52)=w3 at *
  have q0:=HX13.out.cell 0
  simp only [zA,zB] at q0
  have hs3:=HB3.out.size
  have CPL:=zh (place_any A n c O l i w3 (H.out.below HB3.out) HL.out HU.out (by omega))
  go_wp2_with fail
  refine CPL.out.mono ?_
  rintro e wz ⟨rfl,hbz⟩
  have HX14:=zh (HX13.out.below hbz HX13.out.lt)
  have HX24:=zh (HX23.out.below hbz HX23.out.lt)
  have HBQ4:=zh (HBQ.out.below hbz HBQ.out.lt)
  have HBz:=zh (HB3.out.trans (hbz.mono hs3))
  have hszz:=hbz.size
  have HF4:Hid (QF wz (fun b=>w.heap.size+1<b∧b<wz.heap.size) q [.int .i64 qk,.string qn,.slice A1 n1 c1,.slice A2 n2 c2]):=zh ((HF3.out.keep (fun b o hb=>hbz.cell (p:=⟨b,o,none⟩) (Nat.lt_trans hb.2 hszq))).mono (fun b hb=>⟨hb.1,Nat.lt_of_lt_of_le (Nat.lt_trans hb.2 hszq) hszz⟩))
  have hple:=pos_le l i
  have HPI:=zh (fun (k:Kp) (a b:Sl)=>put_is HL.out i k a b)
  have hgp:=(parts HU.out i).2.2
  have HGP:Hid ((get l i).isSome=true→pos l i+1≤n):=zh (fun hg=>by
   obtain ⟨h2,_⟩:=hgp.1 hg
   omega)
  clear hbz CPL HX13 HX23 HBQ HB3 HF3 q0 hgp
  obtain ⟨g,hg⟩:∃ g,(get l i).isSome=g:=⟨_,rfl⟩
  rw [hg] at HGP HPI ⊢
  have HG:=zh hg
  clear hg
  by_cases hmany:g=false∧1000≤l.length
  ·obtain ⟨rfl,hm⟩:=hmany
   have HFIN:Hid (∀ w2,Below w.heap.size w w2→RPutP w l i s (.returned (.tuple #[.agg #[.slice A n c],.int .i64 3])) w2):=zh (fun w2 hb=>rput_stay H.out HL.out (PutR.many HR.out HP.out (by cases hg:get l i with | none=>rfl | some k=>have:=HG.out; rw [hg] at this; cases this) hm) hb)
   have hnm:n=1000:=by omega
   have hnm2:¬ (n:Int)<1000:=by omega
   have hnm3:(1000:Int)≤(n:Int):=by omega
   have q0:=HX14.out.cell 0
   simp only [zA,zB] at q0
   have hX3:Hid (Blk (wz.setCell ⟨w.heap.size+1,0,none⟩ (.slice A n c)) (w.heap.size+1) 41 #[.slice A n c]):=zh (by simpa using HX24.out.set_ 0 (.slice A n c))
   have hB3:Hid (Below w.heap.size w (wz.setCell ⟨w.heap.size+1,0,none⟩ (.slice A n c))):=zh (HBz.out.grown (grownBy_set wz _ 0 _) HBz.out.size (fun b hb=>by injection hb with hb; omega))
   have z0:=HX24.out.frozen 0
   have z1:=HX24.out.cell 0
   simp only [zA,zB] at z1
   clear hnm
   go_wp2
   refine bodyPost_ret (Mx.results_ct rfl rfl (run_loadVar_row _ (w.heap.size+1) 41 41 #[.slice A n c] (0,0) _ hX3.out Tryz.underlying41 rfl (by kernel_rfl))) rfl ?_
   exact HFIN.out _ hB3.out
  ·have hput:PutR l i s 0 (put l i ⟨s,q,needs q⟩):=PutR.ok HR.out HP.out (by
    rw [HG.out]
    cases g with
    | true=>exact .inl rfl
    | false=>exact .inr (by have:¬ 1000≤l.length:=fun h=>hmany ⟨rfl,h⟩; omega))
   have HPUT:=zh hput
   have hlt:g=true∨¬ (1000:Int)≤(n:Int):=by
    cases g with
    | true=>exact .inl rfl
    | false=>exact .inr (by have:¬ 1000≤l.length:=fun h=>hmany ⟨rfl,h⟩; omega)
   clear hmany hput
   have hpn:pos l i≤n:=by omega
   clear hple hll
   generalize hpp:pos l i=p at *
   clear hpp
   have q0:=HX14.out.cell 0
   have r0:=HBQ4.out.cell 0
   have r1:=HBQ4.out.cell 1
   have r2:=HBQ4.out.cell 2
   have r3:=HBQ4.out.cell 3
   simp only [zA,zB,zC] at q0 r0 r1 r2 r3
   have HOg:=zh (fun (wx:World) (hb:Below wz.heap.size wz wx)=>H.out.below (HBz.out.trans (hb.mono HBz.out.size)))
   have R0:=zh (Row.empty 113 6 (by decide) wz)
   have hA0:Below wz.heap.size wz (wz.alloc (.cells #[] 113)):=(Below.refl _ _).alloc (zG _) _
   have HA0:=zh hA0
   have XT:=zh (encR_take O p)
   have XD:=fun q=>zh (encR_drop O q)
   clear hA0
   have hxl:=HX14.out.lt
   have hql:=HBQ4.out.lt
   have hpi:(p:Int)≤(n:Int):=by omega
   have hpt:((p:Int)).toNat=p:=by omega
   have hp0:(0:Int)≤(p:Int):=by omega
   cases g with
   | true =>
    have hp1:=HGP.out rfl
    go_wp2_with (at_builtin; (refine wpList_append_any rfl _ _ 39 rfl (wz.heap.size) 113 i0 _ 6 96 Tryz.underlying39 hi0 hz0 hz1 hz2 rfl (by decide) (_) (0) ([]) rfl (R0.out.own) _ _ _ ((O.take p).flatMap encR) rfl ?r1 ?l1 ?o1 ?m1 ?b1 ?s1 ?_))
    try (case r1=>(have q:=reads_take (p:=p) ((HOg.out _ HA0.out).rd.reads (fun b hb=>hb.lt)) (by omega); rw [XT.out]; first | exact q | (rw [World.size_alloc] at q; exact q)))
    try (case l1=>first | exact Hnil.out | (intro e; first | (cases e; done) | exact Hnil.out e | (have:=Hnil.out e; omega) | (simp at e; done) | (simp at e; have:=Hnil.out e; omega)))
    try (case o1=>exact encR_one _)
    try (case m1=>unfold maxLen; omega)
    try (case b1=>omega)
    try (case s1=>first | omega | (simp; done) | (simp; omega))
    intro v1 w1 ho1 hg1 _
    have R1:Hid (Row 113 6 wz.heap.size wz w1 v1 p ((O.take p).flatMap encR)):=zh ⟨by simpa using ho1,R0.out.bel.grown hg1 (by simp) (fun b hb=>(R0.out.own.lt b hb).1)⟩
    have hsr1:=R1.out.bel.size
    have q1:=(R1.out.bel.cell (p:=⟨w.heap.size,0,none⟩) HX14.out.lt).trans q0
    have s0:=(R1.out.bel.cell (p:=⟨w2.heap.size,0,none⟩) HBQ4.out.lt).trans r0
    have s1:=(R1.out.bel.cell (p:=⟨w2.heap.size,1,none⟩) HBQ4.out.lt).trans r1
    have s2:=(R1.out.bel.cell (p:=⟨w2.heap.size,2,none⟩) HBQ4.out.lt).trans r2
    have s3:=(R1.out.bel.cell (p:=⟨w2.heap.size,3,none⟩) HBQ4.out.lt).trans r3
    clear ho1 hg1 R0 HA0 q0 r0 r1 r2 r3
    go_wp2_with (at_builtin; (refine wpList_append_any rfl _ _ 39 rfl (wz.heap.size) 113 i0 _ 6 96 Tryz.underlying39 hi0 hz0 hz1 hz2 rfl (by decide) (v1) (p) ((O.take p).flatMap encR) rfl ((R1.out.alloc hsr1 _).own) _ _ _ ([.int .i64 i,.string s,.int .i64 qk,.string qn,.slice A1 n1 c1,.slice A2 n2 c2]) rfl ?r2 ?l2 ?o2 ?m2 ?b2 ?s2 ?_))
    try (case r2=>exact Rg.new_row (k:=6) w1 113 [.int .i64 i,.string s,.int .i64 qk,.string qn,.slice A1 n1 c1,.slice A2 n2 c2] 1 rfl (by omega))
    try (case l2=>first | exact Hnil.out | (intro e; first | (cases e; done) | exact Hnil.out e | (have:=Hnil.out e; omega) | (simp at e; done) | (simp at e; have:=Hnil.out e; omega)))
    try (case o2=>simp [Value.oneCell'])
    try (case m2=>unfold maxLen; omega)
    try (case b2=>omega)
    try (case s2=>first | omega | (simp; done) | (simp; omega))
    intro v4 w4 ho4 hg4 _
    have R4:Hid (Row 113 6 wz.heap.size wz w4 v4 (p+1) ((O.take p).flatMap encR ++ [.int .i64 i,.string s,.int .i64 qk,.string qn,.slice A1 n1 c1,.slice A2 n2 c2])):=zh ((R1.out.alloc hsr1 _).app (by simp; omega) ho4 hg4)
    have hsr4:=R4.out.bel.size
    have q4:=(R4.out.bel.cell (p:=⟨w.heap.size,0,none⟩) HX14.out.lt)
    have q14:=HX14.out.cell 0
    simp only [zA,zB] at q14
    rw [q14] at q4
    clear ho4 hg4 R1 q1 s0 s1 s2 s3 q14
    have hqi:((p:Int)+1)≤(n:Int)∨True:=.inr trivial
    have hqn1:((p:Int)+1)≤(n:Int):=by omega
    have hqt:((p:Int)+1).toNat=p+1:=by omega
    have hq0:(0:Int)≤(p:Int)+1:=by omega
    by_cases hcq:c=p+1
    ·go_wp2_with (at_builtin; (refine wpList_append_any rfl _ _ 39 rfl (wz.heap.size) 113 i0 _ 6 96 Tryz.underlying39 hi0 hz0 hz1 hz2 rfl (by decide) (v4) (p+1) (_) rfl (R4.out.own) _ _ _ ((O.drop (p+1)).flatMap encR) rfl ?r3 ?l3 ?o3 ?m3 ?b3 ?s3 ?_))
     try (case r3=>(rw [List.drop_eq_nil_of_le (by omega)]; exact ⟨(by have h0:n - (p+1)=0:=(by omega); simp [h0]),fun h=>absurd h (by omega)⟩))
     try (case l3=>first | exact Hnil.out | (intro e; first | (cases e; done) | exact Hnil.out e | (have:=Hnil.out e; omega) | (simp at e; done) | (simp at e; have:=Hnil.out e; omega)))
     try (case o3=>exact encR_one _)
     try (case m3=>unfold maxLen; omega)
     try (case b3=>omega)
     try (case s3=>first | omega | (simp; done) | (simp; omega))
     intro v5 w5 ho5 hg5 _
     have hmm:p+1+(n - (p+1))=n:=by omega
     have ho5':w5.ownsRow wz.heap.size 113 6 v5 (p+1+(n - (p+1))) (((O.take p).flatMap encR ++ [.int .i64 i,.string s,.int .i64 qk,.string qn,.slice A1 n1 c1,.slice A2 n2 c2]) ++ (O.drop (p+1)).flatMap encR):=by first | exact ho5 | (simpa using ho5) | (rw [hmm]; simpa using ho5)
     have R5:Hid (Row 113 6 wz.heap.size wz w5 v5 (n) ((O.take p).flatMap encR ++ encR ((i,⟨s,q,needs q⟩),(A1,n1,c1),(A2,n2,c2)) ++ (O.drop (p+1)).flatMap encR)):=zh (by
      have hkq:=HKK.out
      have e:encR ((i,(⟨s,q,needs q⟩:Kp)),((A1,n1,c1):Sl),((A2,n2,c2):Sl))=[.int .i64 i,.string s,.int .i64 qk,.string qn,.slice A1 n1 c1,.slice A2 n2 c2]:=by simp only [encR,qC,hkq.1,hkq.2]
      rw [e,← hmm]
      exact R4.out.app hsr4 ho5' hg5)
     have hw5:=HBz.out.trans (R5.out.bel.mono HBz.out.size)
     have HX25:=HX24.out.below R5.out.bel HX24.out.lt
     have z0:=HX25.frozen 0
     have z1:=HX25.cell 0
     simp only [zA,zB] at z1
     have hFQ:QF wz (fun b=>w.heap.size+1<b∧b<wz.heap.size) ((i,(⟨s,q,needs q⟩:Kp)),((A1,n1,c1):Sl),((A2,n2,c2):Sl)).1.2.q (qC ((i,(⟨s,q,needs q⟩:Kp)),((A1,n1,c1):Sl),((A2,n2,c2):Sl))):=by
      have hkq:=HKK.out
      simp only [qC,hkq.1,hkq.2]
      exact HF4.out
     obtain ⟨A6,c6,rfl,hfin⟩:=rput_fin HPUT.out H.out hw5 (rb:=w.heap.size+1) (by omega) (by omega) (zG _) R5.out hFQ R5.out.bel (by omega) (by omega) (by omega) (by
      have:=HPI.out ⟨s,q,needs q⟩ (A1,n1,c1) (A2,n2,c2)
      simpa using this) v5
     have HFIN:=zh hfin
     have hX6:Hid (Blk (w5.setCell ⟨w.heap.size+1,0,none⟩ (.slice A6 (n) c6)) (w.heap.size+1) 41 #[.slice A6 (n) c6]):=zh (by simpa using HX25.set_ 0 (.slice A6 (n) c6))
     clear ho5 ho5' hmm hg5 hfin hFQ HX25 hw5
     go_wp2
     refine bodyPost_ret (Mx.results_ct rfl rfl (run_loadVar_row _ (w.heap.size+1) 41 41 #[.slice A6 (n) c6] (0,0) _ hX6.out Tryz.underlying41 rfl (by kernel_rfl))) rfl ?_
     exact HFIN.out
    ·go_wp2_with (at_builtin; (refine wpList_append_any rfl _ _ 39 rfl (wz.heap.size) 113 i0 _ 6 96 Tryz.underlying39 hi0 hz0 hz1 hz2 rfl (by decide) (v4) (p+1) (_) rfl (R4.out.own) _ _ _ ((O.drop (p+1)).flatMap encR) rfl ?r4 ?l4 ?o4 ?m4 ?b4 ?s4 ?_))
     try (case r4=>(have q:=reads_cut (p:=p+1) ((HOg.out _ R4.out.bel).rd.reads (fun b hb=>hb.lt)) (by omega) hcap; rw [if_neg hcq] at q; rw [(XD (p+1)).out]; first | exact q | (simpa [add_lit] using q)))
     try (case l4=>first | exact Hnil.out | (intro e; first | (cases e; done) | exact Hnil.out e | (have:=Hnil.out e; omega) | (simp at e; done) | (simp at e; have:=Hnil.out e; omega)))
     try (case o4=>exact encR_one _)
     try (case m4=>unfold maxLen; omega)
     try (case b4=>omega)
     try (case s4=>first | omega | (simp; done) | (simp; omega))
     intro v5 w5 ho5 hg5 _
     have hmm:p+1+(n - (p+1))=n:=by omega
     have ho5':w5.ownsRow wz.heap.size 113 6 v5 (p+1+(n - (p+1))) (((O.take p).flatMap encR ++ [.int .i64 i,.string s,.int .i64 qk,.string qn,.slice A1 n1 c1,.slice A2 n2 c2]) ++ (O.drop (p+1)).flatMap encR):=by first | exact ho5 | (simpa using ho5) | (rw [hmm]; simpa using ho5)
     have R5:Hid (Row 113 6 wz.heap.size wz w5 v5 (n) ((O.take p).flatMap encR ++ encR ((i,⟨s,q,needs q⟩),(A1,n1,c1),(A2,n2,c2)) ++ (O.drop (p+1)).flatMap encR)):=zh (by
      have hkq:=HKK.out
      have e:encR ((i,(⟨s,q,needs q⟩:Kp)),((A1,n1,c1):Sl),((A2,n2,c2):Sl))=[.int .i64 i,.string s,.int .i64 qk,.string qn,.slice A1 n1 c1,.slice A2 n2 c2]:=by simp only [encR,qC,hkq.1,hkq.2]
      rw [e,← hmm]
      exact R4.out.app hsr4 ho5' hg5)
     have hw5:=HBz.out.trans (R5.out.bel.mono HBz.out.size)
     have HX25:=HX24.out.below R5.out.bel HX24.out.lt
     have z0:=HX25.frozen 0
     have z1:=HX25.cell 0
     simp only [zA,zB] at z1
     have hFQ:QF wz (fun b=>w.heap.size+1<b∧b<wz.heap.size) ((i,(⟨s,q,needs q⟩:Kp)),((A1,n1,c1):Sl),((A2,n2,c2):Sl)).1.2.q (qC ((i,(⟨s,q,needs q⟩:Kp)),((A1,n1,c1):Sl),((A2,n2,c2):Sl))):=by
      have hkq:=HKK.out
      simp only [qC,hkq.1,hkq.2]
      exact HF4.out
     obtain ⟨A6,c6,rfl,hfin⟩:=rput_fin HPUT.out H.out hw5 (rb:=w.heap.size+1) (by omega) (by omega) (zG _) R5.out hFQ R5.out.bel (by omega) (by omega) (by omega) (by
      have:=HPI.out ⟨s,q,needs q⟩ (A1,n1,c1) (A2,n2,c2)
      simpa using this) v5
     have HFIN:=zh hfin
     have hX6:Hid (Blk (w5.setCell ⟨w.heap.size+1,0,none⟩ (.slice A6 (n) c6)) (w.heap.size+1) 41 #[.slice A6 (n) c6]):=zh (by simpa using HX25.set_ 0 (.slice A6 (n) c6))
     clear ho5 ho5' hmm hg5 hfin hFQ HX25 hw5
     go_wp2
     refine bodyPost_ret (Mx.results_ct rfl rfl (run_loadVar_row _ (w.heap.size+1) 41 41 #[.slice A6 (n) c6] (0,0) _ hX6.out Tryz.underlying41 rfl (by kernel_rfl))) rfl ?_
     exact HFIN.out
   | false =>
    have hlt2:¬ (1000:Int)≤(n:Int):=by
     rcases hlt with h | h
     ·cases h
     ·exact h
    clear hlt
    go_wp2_with (at_builtin; (refine wpList_append_any rfl _ _ 39 rfl (wz.heap.size) 113 i0 _ 6 96 Tryz.underlying39 hi0 hz0 hz1 hz2 rfl (by decide) (_) (0) ([]) rfl (R0.out.own) _ _ _ ((O.take p).flatMap encR) rfl ?r5 ?l5 ?o5 ?m5 ?b5 ?s5 ?_))
    try (case r5=>(have q:=reads_take (p:=p) ((HOg.out _ HA0.out).rd.reads (fun b hb=>hb.lt)) (by omega); rw [XT.out]; first | exact q | (rw [World.size_alloc] at q; exact q)))
    try (case l5=>first | exact Hnil.out | (intro e; first | (cases e; done) | exact Hnil.out e | (have:=Hnil.out e; omega) | (simp at e; done) | (simp at e; have:=Hnil.out e; omega)))
    try (case o5=>exact encR_one _)
    try (case m5=>unfold maxLen; omega)
    try (case b5=>omega)
    try (case s5=>first | omega | (simp; done) | (simp; omega))
    intro v1 w1 ho1 hg1 _
    have R1:Hid (Row 113 6 wz.heap.size wz w1 v1 p ((O.take p).flatMap encR)):=zh ⟨by simpa using ho1,R0.out.bel.grown hg1 (by simp) (fun b hb=>(R0.out.own.lt b hb).1)⟩
    have hsr1:=R1.out.bel.size
    have q1:=(R1.out.bel.cell (p:=⟨w.heap.size,0,none⟩) HX14.out.lt).trans q0
    have s0:=(R1.out.bel.cell (p:=⟨w2.heap.size,0,none⟩) HBQ4.out.lt).trans r0
    have s1:=(R1.out.bel.cell (p:=⟨w2.heap.size,1,none⟩) HBQ4.out.lt).trans r1
    have s2:=(R1.out.bel.cell (p:=⟨w2.heap.size,2,none⟩) HBQ4.out.lt).trans r2
    have s3:=(R1.out.bel.cell (p:=⟨w2.heap.size,3,none⟩) HBQ4.out.lt).trans r3
    clear ho1 hg1 R0 HA0 q0 r0 r1 r2 r3
    go_wp2_with (at_builtin; (refine wpList_append_any rfl _ _ 39 rfl (wz.heap.size) 113 i0 _ 6 96 Tryz.underlying39 hi0 hz0 hz1 hz2 rfl (by decide) (v1) (p) ((O.take p).flatMap encR) rfl ((R1.out.alloc hsr1 _).own) _ _ _ ([.int .i64 i,.string s,.int .i64 qk,.string qn,.slice A1 n1 c1,.slice A2 n2 c2]) rfl ?r6 ?l6 ?o6 ?m6 ?b6 ?s6 ?_))
    try (case r6=>exact Rg.new_row (k:=6) w1 113 [.int .i64 i,.string s,.int .i64 qk,.string qn,.slice A1 n1 c1,.slice A2 n2 c2] 1 rfl (by omega))
    try (case l6=>first | exact Hnil.out | (intro e; first | (cases e; done) | exact Hnil.out e | (have:=Hnil.out e; omega) | (simp at e; done) | (simp at e; have:=Hnil.out e; omega)))
    try (case o6=>simp [Value.oneCell'])
    try (case m6=>unfold maxLen; omega)
    try (case b6=>omega)
    try (case s6=>first | omega | (simp; done) | (simp; omega))
    intro v4 w4 ho4 hg4 _
    have R4:Hid (Row 113 6 wz.heap.size wz w4 v4 (p+1) ((O.take p).flatMap encR ++ [.int .i64 i,.string s,.int .i64 qk,.string qn,.slice A1 n1 c1,.slice A2 n2 c2])):=zh ((R1.out.alloc hsr1 _).app (by simp; omega) ho4 hg4)
    have hsr4:=R4.out.bel.size
    have q4:=(R4.out.bel.cell (p:=⟨w.heap.size,0,none⟩) HX14.out.lt)
    have q14:=HX14.out.cell 0
    simp only [zA,zB] at q14
    rw [q14] at q4
    clear ho4 hg4 R1 q1 s0 s1 s2 s3 q14
    have hqi:((p:Int)+1)≤(n:Int)∨True:=.inr trivial
    by_cases hcq:c=p
    ·go_wp2_with (at_builtin; (refine wpList_append_any rfl _ _ 39 rfl (wz.heap.size) 113 i0 _ 6 96 Tryz.underlying39 hi0 hz0 hz1 hz2 rfl (by decide) (v4) (p+1) (_) rfl (R4.out.own) _ _ _ ((O.drop (p)).flatMap encR) rfl ?r7 ?l7 ?o7 ?m7 ?b7 ?s7 ?_))
     try (case r7=>(rw [List.drop_eq_nil_of_le (by omega)]; exact ⟨(by have h0:n - (p)=0:=(by omega); simp [h0]),fun h=>absurd h (by omega)⟩))
     try (case l7=>first | exact Hnil.out | (intro e; first | (cases e; done) | exact Hnil.out e | (have:=Hnil.out e; omega) | (simp at e; done) | (simp at e; have:=Hnil.out e; omega)))
     try (case o7=>exact encR_one _)
     try (case m7=>unfold maxLen; omega)
     try (case b7=>omega)
     try (case s7=>first | omega | (simp; done) | (simp; omega))
     intro v5 w5 ho5 hg5 _
     have hmm:p+1+(n - (p))=p+1+(n - p):=by omega
     have ho5':w5.ownsRow wz.heap.size 113 6 v5 (p+1+(n - (p))) (((O.take p).flatMap encR ++ [.int .i64 i,.string s,.int .i64 qk,.string qn,.slice A1 n1 c1,.slice A2 n2 c2]) ++ (O.drop (p)).flatMap encR):=by first | exact ho5 | (simpa using ho5) | (rw [hmm]; simpa using ho5)
     have R5:Hid (Row 113 6 wz.heap.size wz w5 v5 (p+1+(n - p)) ((O.take p).flatMap encR ++ encR ((i,⟨s,q,needs q⟩),(A1,n1,c1),(A2,n2,c2)) ++ (O.drop (p)).flatMap encR)):=zh (by
      have hkq:=HKK.out
      have e:encR ((i,(⟨s,q,needs q⟩:Kp)),((A1,n1,c1):Sl),((A2,n2,c2):Sl))=[.int .i64 i,.string s,.int .i64 qk,.string qn,.slice A1 n1 c1,.slice A2 n2 c2]:=by simp only [encR,qC,hkq.1,hkq.2]
      rw [e,← hmm]
      exact R4.out.app hsr4 ho5' hg5)
     have hw5:=HBz.out.trans (R5.out.bel.mono HBz.out.size)
     have HX25:=HX24.out.below R5.out.bel HX24.out.lt
     have z0:=HX25.frozen 0
     have z1:=HX25.cell 0
     simp only [zA,zB] at z1
     have hFQ:QF wz (fun b=>w.heap.size+1<b∧b<wz.heap.size) ((i,(⟨s,q,needs q⟩:Kp)),((A1,n1,c1):Sl),((A2,n2,c2):Sl)).1.2.q (qC ((i,(⟨s,q,needs q⟩:Kp)),((A1,n1,c1):Sl),((A2,n2,c2):Sl))):=by
      have hkq:=HKK.out
      simp only [qC,hkq.1,hkq.2]
      exact HF4.out
     obtain ⟨A6,c6,rfl,hfin⟩:=rput_fin HPUT.out H.out hw5 (rb:=w.heap.size+1) (by omega) (by omega) (zG _) R5.out hFQ R5.out.bel (by omega) (by omega) (by omega) (by
      have:=HPI.out ⟨s,q,needs q⟩ (A1,n1,c1) (A2,n2,c2)
      simpa using this) v5
     have HFIN:=zh hfin
     have hX6:Hid (Blk (w5.setCell ⟨w.heap.size+1,0,none⟩ (.slice A6 (p+1+(n - p)) c6)) (w.heap.size+1) 41 #[.slice A6 (p+1+(n - p)) c6]):=zh (by simpa using HX25.set_ 0 (.slice A6 (p+1+(n - p)) c6))
     clear ho5 ho5' hmm hg5 hfin hFQ HX25 hw5
     go_wp2
     refine bodyPost_ret (Mx.results_ct rfl rfl (run_loadVar_row _ (w.heap.size+1) 41 41 #[.slice A6 (p+1+(n - p)) c6] (0,0) _ hX6.out Tryz.underlying41 rfl (by kernel_rfl))) rfl ?_
     exact HFIN.out
    ·go_wp2_with (at_builtin; (refine wpList_append_any rfl _ _ 39 rfl (wz.heap.size) 113 i0 _ 6 96 Tryz.underlying39 hi0 hz0 hz1 hz2 rfl (by decide) (v4) (p+1) (_) rfl (R4.out.own) _ _ _ ((O.drop (p)).flatMap encR) rfl ?r8 ?l8 ?o8 ?m8 ?b8 ?s8 ?_))
     try (case r8=>(have q:=reads_cut (p:=p) ((HOg.out _ R4.out.bel).rd.reads (fun b hb=>hb.lt)) (by omega) hcap; rw [if_neg hcq] at q; rw [(XD (p)).out]; first | exact q | (simpa [add_lit] using q)))
     try (case l8=>first | exact Hnil.out | (intro e; first | (cases e; done) | exact Hnil.out e | (have:=Hnil.out e; omega) | (simp at e; done) | (simp at e; have:=Hnil.out e; omega)))
     try (case o8=>exact encR_one _)
     try (case m8=>unfold maxLen; omega)
     try (case b8=>omega)
     try (case s8=>first | omega | (simp; done) | (simp; omega))
     intro v5 w5 ho5 hg5 _
     have hmm:p+1+(n - (p))=p+1+(n - p):=by omega
     have ho5':w5.ownsRow wz.heap.size 113 6 v5 (p+1+(n - (p))) (((O.take p).flatMap encR ++ [.int .i64 i,.string s,.int .i64 qk,.string qn,.slice A1 n1 c1,.slice A2 n2 c2]) ++ (O.drop (p)).flatMap encR):=by first | exact ho5 | (simpa using ho5) | (rw [hmm]; simpa using ho5)
     have R5:Hid (Row 113 6 wz.heap.size wz w5 v5 (p+1+(n - p)) ((O.take p).flatMap encR ++ encR ((i,⟨s,q,needs q⟩),(A1,n1,c1),(A2,n2,c2)) ++ (O.drop (p)).flatMap encR)):=zh (by
      have hkq:=HKK.out
      have e:encR ((i,(⟨s,q,needs q⟩:Kp)),((A1,n1,c1):Sl),((A2,n2,c2):Sl))=[.int .i64 i,.string s,.int .i64 qk,.string qn,.slice A1 n1 c1,.slice A2 n2 c2]:=by simp only [encR,qC,hkq.1,hkq.2]
      rw [e,← hmm]
      exact R4.out.app hsr4 ho5' hg5)
     have hw5:=HBz.out.trans (R5.out.bel.mono HBz.out.size)
     have HX25:=HX24.out.below R5.out.bel HX24.out.lt
     have z0:=HX25.frozen 0
     have z1:=HX25.cell 0
     simp only [zA,zB] at z1
     have hFQ:QF wz (fun b=>w.heap.size+1<b∧b<wz.heap.size) ((i,(⟨s,q,needs q⟩:Kp)),((A1,n1,c1):Sl),((A2,n2,c2):Sl)).1.2.q (qC ((i,(⟨s,q,needs q⟩:Kp)),((A1,n1,c1):Sl),((A2,n2,c2):Sl))):=by
      have hkq:=HKK.out
      simp only [qC,hkq.1,hkq.2]
      exact HF4.out
     obtain ⟨A6,c6,rfl,hfin⟩:=rput_fin HPUT.out H.out hw5 (rb:=w.heap.size+1) (by omega) (by omega) (zG _) R5.out hFQ R5.out.bel (by omega) (by omega) (by omega) (by
      have:=HPI.out ⟨s,q,needs q⟩ (A1,n1,c1) (A2,n2,c2)
      simpa using this) v5
     have HFIN:=zh hfin
     have hX6:Hid (Blk (w5.setCell ⟨w.heap.size+1,0,none⟩ (.slice A6 (p+1+(n - p)) c6)) (w.heap.size+1) 41 #[.slice A6 (p+1+(n - p)) c6]):=zh (by simpa using HX25.set_ 0 (.slice A6 (p+1+(n - p)) c6))
     clear ho5 ho5' hmm hg5 hfin hFQ HX25 hw5
     go_wp2
     refine bodyPost_ret (Mx.results_ct rfl rfl (run_loadVar_row _ (w.heap.size+1) 41 41 #[.slice A6 (p+1+(n - p)) c6] (0,0) _ hX6.out Tryz.underlying41 rfl (by kernel_rfl))) rfl ?_
     exact HFIN.out
end Go.Proofs.YtlfpfkallgkjdaaGreat.Al
end

section
namespace Go.Proofs.YtlfpfkallgkjdaaGreat.Al
open Go.RowKit Go.Maps Ut Tk Qy Qp Ev Mv
def NoIS (cs:Array Value):Prop:=∀ (i:Nat) (u:Value),cs[i]?=some u→(∀ k z,u≠Value.int k z)∧∀ s,u≠Value.string s
theorem noIS_two (p:Option Addr) (A:Option Addr) (n c:Nat):NoIS #[.pointer p,.slice A n c]:=fun i u h=>by
 match i,h with
 | 0,h=>simp at h; subst h; exact ⟨fun k z e=>(by cases e),fun s e=>(by cases e)⟩
 | 1,h=>simp at h; subst h; exact ⟨fun k z e=>(by cases e),fun s e=>(by cases e)⟩
 | i+2,h=>simp at h
theorem noIS_one (A:Option Addr) (n c:Nat):NoIS #[.slice A n c]:=fun i u h=>by
 match i,h with
 | 0,h=>simp at h; subst h; exact ⟨fun k z e=>(by cases e),fun s e=>(by cases e)⟩
 | i+1,h=>simp at h
section
variable {w:World} {g:Nat} {T:TypeId} {cs:Array Value}
theorem reads_ne {S:Nat→Prop} {k n:Nat} {A:Option Addr} {xs:List Value} (hB:Blk w g T cs) (hN:NoIS cs) (h:ReadsS w S k A n xs) (hx:∀ u,xs[0]?=some u→(∃ k z,u=Value.int k z)∨∃ s,u=Value.string s) (hk : 0<k):ReadsS w (fun b=>S b∧b≠g) k A n xs:=by
 refine ⟨h.1,fun hn=>?_⟩
 obtain ⟨b,o,e,hb,hc⟩:=h.2 hn
 refine ⟨b,o,e,⟨hb,fun eq=>?_⟩,hc⟩
 subst eq
 have hl : 0<xs.length:=by rw [h.1]; exact Nat.mul_pos hn hk
 have h0:=hc 0 xs[0] (List.getElem?_eq_getElem hl)
 rw [Nat.add_zero,hB.cell] at h0
 have:=hN _ _ h0
 rcases hx _ (List.getElem?_eq_getElem hl) with ⟨k',z,e2⟩ | ⟨s,e2⟩
 ·exact this.1 _ _ e2
 ·exact this.2 _ e2
theorem qf_ne {S:Nat→Prop} {q:Q} {vs:List Value} (hB:Blk w g T cs) (hN:NoIS cs) (h:QF w S q vs):QF w (fun b=>S b∧b≠g) q vs:=by
 induction h with
 | @mk k nm ws l A C n c m d vss hn hw hm hv h4 hl kids ih =>
  refine .mk vss hn (reads_ne hB hN hw (fun u hu=>.inr ?_) (by decide)) hm hv h4 (reads_ne hB hN hl (fun u hu=>.inl ?_) (by decide)) ih
  ·cases ws with
   | nil=>simp at hu
   | cons s ws=>simp at hu; exact ⟨s,hu.symm⟩
  ·cases vss with
   | nil=>simp at hu
   | cons v vss =>
    cases l with
    | nil=>simp at hv hm; omega
    | cons x l =>
     have hq:=kids 0 (by simp) (by simp)
     simp only [List.getElem_cons_zero] at hq
     obtain ⟨A',n',c',C',m',d',e⟩:=hq.four
     rw [List.flatten_cons,e] at hu
     simp at hu
     exact ⟨_,_,hu.symm⟩
theorem set_same {b:Nat} (hb:b≠g) (j:Nat) (u:Value):(w.setCell ⟨g,j,none⟩ u).heap[b]?=w.heap[b]?:=Below.heap_setCell w ⟨g,j,none⟩ u b hb
theorem sc_set {b:Nat} (h:Sc w b) (hb:b≠g) (j:Nat) (u:Value):Sc (w.setCell ⟨g,j,none⟩ u) b:=h.same (set_same hb j u)
theorem qf_set {q:Q} {vs:List Value} (hB:Blk w g T cs) (hN:NoIS cs) (h:QF w (Sc w) q vs) (j:Nat) (u:Value):QF (w.setCell ⟨g,j,none⟩ u) (Sc (w.setCell ⟨g,j,none⟩ u)) q vs :=
 ((qf_ne hB hN h).keep (fun b o hb=>cell_same (set_same hb.2 j u) o)).mono (fun b hb=>sc_set hb.1 hb.2 j u)
theorem kpv_set {k:Kp} {v:Value} (hB:Blk w g T cs) (hN:NoIS cs) (h:KpV w k v) (j:Nat) (u:Value):KpV (w.setCell ⟨g,j,none⟩ u) k v:=by
 obtain ⟨a0,a1,a2,a3,A,c,e,h1,h2⟩:=h
 refine ⟨a0,a1,a2,a3,A,c,e,qf_set hB hN h1 j u,?_⟩
 have h3:=reads_ne hB hN h2 (fun u hu=>.inr (by
  cases hk:k.needs with
  | nil=>rw [hk] at hu; simp [bsv] at hu
  | cons s t=>rw [hk] at hu; simp [bsv] at hu; exact ⟨s,hu.symm⟩)) (by decide)
 exact (h3.keep (fun b o hb=>cell_same (set_same hb.2 j u) o)).mono (fun b hb=>sc_set hb.1 hb.2 j u)
theorem rat_set {A:Option Addr} {n c:Nat} {O:List Rk} (hB:Blk w g T cs) (hN:NoIS cs) (h:RAt w A n c O) (j:Nat) (u:Value):RAt (w.setCell ⟨g,j,none⟩ u) A n c O:=by
 refine ⟨?_,h.ln,h.cap,h.nl,fun x hx=>qf_set hB hN (h.qs x hx) j u⟩
 have h3:=reads_ne hB hN h.rd (fun u hu=>.inl (by
  cases O with
  | nil=>simp at hu
  | cons x O=>simp [encR] at hu; exact ⟨_,_,hu.symm⟩)) (by decide)
 exact (h3.keep (fun b o hb=>cell_same (set_same hb.2 j u) o)).mono (fun b hb=>sc_set hb.1 hb.2 j u)
theorem aln_set {n0 X K:Nat} {l:List (Int × Kp)} (hB:Blk w g T cs) (hN:NoIS cs) (hT:T≠86) (h:AlN n0 w X K l) (j:Nat) (u:Value):AlN n0 (w.setCell ⟨g,j,none⟩ u) X K l:=by
 obtain ⟨cn,M1,M2,F1,F2,h1,h2,h3⟩:=h.ex
 have hsc:Sc w g:=blk_sc hB
 have e:∀ b,Own M1 M2 F2 b→(w.setCell ⟨g,j,none⟩ u).heap[b]?=w.heap[b]?:=fun b hb=>set_same (fun eq=>h2.al.noSc b hb (by rw [eq]; exact hsc)) j u
 refine ⟨cn,M1,M2,F1,F2,h1,⟨(set_same (fun e=>hT (by
  have:=h2.blk
  rw [e] at this
  have hB':w.heap[g]?=_:=hB
  unfold Blk at this
  rw [hB'] at this
  injection this with this
  injection this)) j u).trans h2.blk,?_⟩,h3⟩
 have ha:=h2.al
 exact ⟨ha.up,ha.rng,ha.ok,MapZ.same ha.m1 (e _ (.inl rfl)),fun i k hk=>by
  obtain ⟨v,q1,q2⟩:=ha.kv i k hk
  exact ⟨v,q1,kpv_set hB hN q2 j u⟩,ha.kn,ha.m2.same (e _ (.inr (.inl rfl))),fun s m hs=>(ha.sub s m hs).same (e _ (.inr (.inr ⟨s,hs⟩))),ha.nos,ha.apart,ha.n12,ha.n1⟩
end
structure St (n0:Nat) (w:World) (Bb K:Nat) (l:List (Int × Kp)):Prop where
 ex:∃ X A n c O,Blk w Bb 43 #[.pointer (some ⟨X,0,none⟩),.slice A n c]∧AlN n0 w X K l∧RAt w A n c O∧RIs O l
 few:l.length≤1000
 bb:n0≤Bb
theorem St.below {n0:Nat} {w w':World} {Bb K:Nat} {l:List (Int × Kp)} (h:St n0 w Bb K l) (hb:Below w.heap.size w w'):St n0 w' Bb K l:=by
 obtain ⟨X,A,n,c,O,h1,h2,h3,h4⟩:=h.ex
 exact ⟨⟨X,A,n,c,O,h1.below hb h1.lt,h2.new_below hb,h3.below hb,h4⟩,h.few,h.bb⟩
theorem St.more {n0:Nat} {w:World} {Bb K K':Nat} {l:List (Int × Kp)} (h:St n0 w Bb K l) (hK:K≤K'):St n0 w Bb K' l:=by
 obtain ⟨X,A,n,c,O,h1,h2,h3,h4⟩:=h.ex
 obtain ⟨cn,M1,M2,F1,F2,g1,g2⟩:=h2.ex
 exact ⟨⟨X,A,n,c,O,h1,⟨cn,M1,M2,F1,F2,by omega,g2⟩,h3,h4⟩,h.few,h.bb⟩
end Go.Proofs.YtlfpfkallgkjdaaGreat.Al
end

section
namespace Go.Proofs.YtlfpfkallgkjdaaGreat.Al
open Go.RowKit Go.Maps Ut Tk Qy Qp Ev Mv Rg
def Sx (bx:Nat) (w:World) (b:Nat):Prop:=Sc w b∧(b<bx∨bx+1<b)
structure RAtX (bx:Nat) (w:World) (A:Option Addr) (n c:Nat) (O:List Rk):Prop where
 rd:ReadsS w (Sx bx w) 6 A n (O.flatMap encR)
 ln:O.length=n
 cap:n≤c
 nl:A=none→c=0
 qs:∀ x∈O,QF w (Sx bx w) x.1.2.q (qC x)
section
variable {bx:Nat} {w w':World} {A:Option Addr} {n c:Nat} {O:List Rk}
theorem RAtX.at_ (h:RAtX bx w A n c O):RAt w A n c O:=⟨h.rd.mono (fun b hb=>hb.1),h.ln,h.cap,h.nl,fun x hx=>(h.qs x hx).mono (fun b hb=>hb.1)⟩
theorem RAtX.of (h:RAt w A n c O) (hb:Below w.heap.size w w') (hx:w.heap.size≤bx):RAtX bx w' A n c O:=by
 have k:∀ b,Sc w b→Sx bx w' b:=fun b hs=>⟨hs.same (hb.block b hs.lt),.inl (by have:=hs.lt; omega)⟩
 exact ⟨(h.rd.keep (fun b o hs=>hb.cell (p:=⟨b,o,none⟩) hs.lt)).mono k,h.ln,h.cap,h.nl,fun x hx=>((h.qs x hx).keep (fun b o hs=>hb.cell (p:=⟨b,o,none⟩) hs.lt)).mono k⟩
theorem RAtX.below (h:RAtX bx w A n c O) (hb:Below w.heap.size w w'):RAtX bx w' A n c O:=by
 have k:∀ b,Sx bx w b→Sx bx w' b:=fun b hs=>⟨hs.1.same (hb.block b hs.1.lt),hs.2⟩
 exact ⟨(h.rd.keep (fun b o hs=>hb.cell (p:=⟨b,o,none⟩) hs.1.lt)).mono k,h.ln,h.cap,h.nl,fun x hx=>((h.qs x hx).keep (fun b o hs=>hb.cell (p:=⟨b,o,none⟩) hs.1.lt)).mono k⟩
theorem RAtX.set (h:RAtX bx w A n c O) {p:Nat} (hp:p=bx∨p=bx+1) (u:Value):RAtX bx (w.setCell ⟨p,0,none⟩ u) A n c O:=by
 have e:∀ b,Sx bx w b→(w.setCell ⟨p,0,none⟩ u).heap[b]?=w.heap[b]?:=fun b hs=>Below.heap_setCell w ⟨p,0,none⟩ u b (by show b≠p; have:=hs.2; omega)
 have k:∀ b,Sx bx w b→Sx bx (w.setCell ⟨p,0,none⟩ u) b:=fun b hs=>⟨hs.1.same (e b hs),hs.2⟩
 exact ⟨(h.rd.keep (fun b o hs=>cell_same (e b hs) o)).mono k,h.ln,h.cap,h.nl,fun x hx=>((h.qs x hx).keep (fun b o hs=>cell_same (e b hs) o)).mono k⟩
end
theorem RAtX.cut {bx:Nat} {wz w5:World} {A:Option Addr} {n c p m:Nat} {O:List Rk} {v:Value} (h:RAtX bx wz A n c O) (hR:Row 113 6 wz.heap.size wz w5 v m ((O.take p).flatMap encR ++ (O.drop (p+1)).flatMap encR)) (hm:m=p+(n - (p+1))) (hp:p+1≤n) (hbx:bx+1<wz.heap.size) :
  ∃ A' c',v=.slice A' m c'∧RAtX bx w5 A' m c' (O.take p ++ O.drop (p+1)):=by
 obtain ⟨A',c',rfl,_,hc,hnl,_⟩:=Ev.own_shape2 hR.own
 have h5:=h.below hR.bel
 refine ⟨A',c',rfl,?_,?_,hc,hnl,fun y hy=>?_⟩
 ·have h1:=ReadsS.of_own hR.own
  have h2:=reads_sc h1 (by decide)
  rw [List.flatMap_append]
  refine ⟨h2.1,fun hn=>?_⟩
  obtain ⟨b,o,e,hb,hcl⟩:=h1.2 hn
  obtain ⟨b2,o2,e2,hb2,_⟩:=h2.2 hn
  rw [e] at e2
  injection e2 with e2
  injection e2 with e2
  subst e2
  exact ⟨b,o,e,⟨hb2,.inr (by have:=hb.1; omega)⟩,hcl⟩
 ·have:=h.ln
  simp only [List.length_append,List.length_take,List.length_drop]
  omega
 ·rcases List.mem_append.1 hy with hy | hy
  ·exact h5.qs y (List.mem_of_mem_take hy)
  ·exact h5.qs y (List.mem_of_mem_drop hy)
theorem drop_is {O:List Rk} {l:List (Int × Kp)} (hl:RIs O l) (i:Int) (hg:(get l i).isSome=true):RIs (O.take (pos l i) ++ O.drop (pos l i+1)) (drop l i):=by
 unfold drop RIs
 rw [if_pos hg,List.map_append,List.map_take,List.map_drop,show O.map (·.1)=l from hl]
def RDropP (w:World) (l:List (Int × Kp)) (ids:List Int) (e:Ending) (w':World):Prop :=
 ∃ A n c O,e=.returned (.tuple #[.agg #[.slice A n c],.int .i64 (cntD l ids:Nat)])∧RIs O (dropsL l ids)∧RAt w' A n c O∧Below w.heap.size w w'
set_option maxHeartbeats 12800000 in
theorem rdrop_any (A0:Option Addr) (n0 c0:Nat) (O0:List Rk) (l:List (Int × Kp)) (I:Option Addr) (m mc:Nat) (ids:List Int) (w:World) (h:RAt w A0 n0 c0 O0) (hl:RIs O0 l) (hu:UpI l) (hn:n0≤1000) (hI:ReadsS w (Sc w) 1 I m (itv ids)) (hm:ids.length=m) (hm2:m≤4294967296) :
  Calls Tryz.prog 54 #[.agg #[.slice A0 n0 c0],.slice I m mc] w (RDropP w l ids):=by
 obtain ⟨i0,hi0,hz0,hz1,hz2⟩:=info_parts kept_info
 have hb1:Below w.heap.size w (w.alloc (.cells #[.slice A0 n0 c0] 41)):=(Below.refl _ _).alloc (zG _) _
 have hsz1:(w.alloc (.cells #[.slice A0 n0 c0] 41)).heap.size=w.heap.size+1:=by simp
 have hb2:Below (w.alloc (.cells #[.slice A0 n0 c0] 41)).heap.size (w.alloc (.cells #[.slice A0 n0 c0] 41)) ((w.alloc (.cells #[.slice A0 n0 c0] 41)).alloc (.cells #[.slice none 0 0] 41)):=(Below.refl _ _).alloc (zG _) _
 have hX1:=(Blk.new w 41 #[.slice A0 n0 c0]).below hb2 (by omega)
 have hX2:=Blk.new (w.alloc (.cells #[.slice A0 n0 c0] 41)) 41 #[.slice none 0 0]
 rw [hsz1] at hX2
 have hbb:=hb1.trans (hb2.mono (by omega))
 have HX1:=zh hX1
 have HX2:=zh hX2
 have HB:=zh hbb
 have HR:=zh (RAtX.of h hbb (bx:=w.heap.size) (zG _))
 have HL:=zh hl
 have HI:=zh hI
 have HM:=zh hm
 have hln0:=h.ln
 have HU:=zh hu
 have hle0:l.length≤1000:=by have:=hl.len; omega
 clear h hl hb1 hb2 hX1 hX2 hbb hsz1 hI hm hu
 go_enter Tryz.func54,Tryz.ntmps54
 go_upto_region 1 with (fail)
 generalize ((w.alloc (.cells #[.slice A0 n0 c0] 41)).alloc (.cells #[.slice none 0 0] 41))=w1 at *
 go_wp2_with fail
 generalize hbx:w.heap.size=bx at *
 go_loopw [6,7] (fun a b wr=>∃ (k:Nat) (A:Option Addr) (n c:Nat) (O:List Rk),k≤m∧a=.int .i64 (cntD l (ids.take k):Nat)∧b=.int .i64 k∧Hid (Blk wr bx 41 #[.slice A n c])∧Hid (Blk wr (bx+1) 41 #[.slice none 0 0])∧Hid (RAtX bx wr A n c O)∧Hid (RIs O (dropsL l (ids.take k)))∧Hid (Below bx w wr)) (fun _ b _=>m - (intOf b).toNat)
 case atStart=>exact ⟨0,A0,n0,c0,O0,Nat.zero_le _,rfl,rfl,HX1,HX2,HR,zh (by simpa [dropsL] using HL.out),HB⟩
 case round =>
  obtain ⟨k,A,n,c,O,hk,rfl,rfl,hX,hY,hRx,hL,hB⟩:=hrel
  have hbw:=hB.out
  have hdl:=dropsL_few (ids.take k) l HU.out
  have hcd:=cntD_le (ids.take k) l
  rw [List.length_take] at hcd
  by_cases hlt:k<m
  ·have hkl:k<ids.length:=by rw [HM.out]; exact hlt
   obtain ⟨ib,io,rfl,hbS,hcl⟩:=HI.out.2 (by omega)
   have hc1:=hcl k _ (itv_get ids k hkl)
   have hibl:=hbS.lt
   have hts:ids.take (k+1)=ids.take k ++ [ids[k]]:=List.take_succ_eq_append_getElem hkl
   have hds:=dropsL_snoc l (ids.take k) ids[k]
   have hcs:=cntD_snoc (ids.take k) l ids[k]
   rw [← hts] at hds hcs
   have HDS:=zh hds
   have HCS:=zh hcs
   have hcb:cntD l (ids.take k)≤k:=by omega
   have hnl2:=hL.out.len
   have hnO:=hRx.out.ln
   have Hnil:=zh hRx.out.nl
   have hcap:=hRx.out.cap
   have hn1000:n≤1000:=by omega
   have HU2:=zh hdl.2
   have hc1':Hid (∀ wx,Below wr.heap.size wr wx→wx.cell? ⟨bx,0,none⟩=some (.slice A n c)∧wx.cell? ⟨ib,io+k,none⟩=some (.int .i64 ids[k])):=zh (fun wx hb=>by
    have r0:=(hX.out.below hb hX.out.lt).cell 0
    simp only [zA,zB] at r0
    refine ⟨r0,?_⟩
    have e1:=hb.cell (p:=⟨ib,io+k,none⟩) (by show ib < _; have:=hbw.size; omega)
    have e2:=hbw.cell (p:=⟨ib,io+k,none⟩) (by show ib < _; omega)
    exact e1.trans (e2.trans hc1))
   clear hbS hcl hc1 hts hds hcs hdl hcd hbw
   generalize dropsL l (ids.take k)=m1 at *
   generalize cntD l (ids.take k)=t1 at *
   generalize ids[k]=x at *
   have CPL:Hid (∀ wx,Below wr.heap.size wr wx→Calls Tryz.prog 56 #[.agg #[.slice A n c],.int .i64 x] wx fun e w'=>e=.returned (.tuple #[.int .i64 (pos m1 x:Nat),.bool (get m1 x).isSome])∧Below wx.heap.size wx w'):=zh (fun wx hb=>place_any A n c O m1 x wx (hRx.out.below hb).at_ hL.out HU2.out (by omega))
   have hgp:=(parts HU2.out x).2.2
   have HGP:Hid ((get m1 x).isSome=true→pos m1 x+1≤n):=zh (fun hg=>by
    obtain ⟨h2,_⟩:=hgp.1 hg
    omega)
   have HDI:=zh (drop_is hL.out x)
   have HDN:=zh (drop_no (l:=m1) (i:=x))
   obtain ⟨g,hg⟩:∃ g,(get m1 x).isSome=g:=⟨_,rfl⟩
   rw [hg] at CPL HGP HDI HCS
   have HG:=zh hg
   clear hgp hg
   generalize hpp:pos m1 x=p at *
   clear hpp
   go_upto_region 5 with (fail)
   refine wp_region_grow (specOf [(5,⟨Unit,fun _=>.tuple #[.int .i64 (p:Nat),.bool g],fun _ _=>True⟩)]) (fun wx=>Below (World.heap wr).size wr wx) (fun w1 w2=>Below w1.heap.size w1 w2) (by kernel_rfl) (by kernel_rfl) (stab_cons (fun x wa wb hg h=>trivial) (stab_nil)) (Below.refl _ _).drew ?_
   iterate 5
    refine grow_fix _ ?_ rfl (by rfl) (by rfl) (fun wx hC hD=>?_) ?_
    rotate_left
    ·have hSw:=hc1'.out wx hC
     go_simp
     all_goals with_reducible rfl
    try simp only [Act.put,zD,zE,zF]
   refine grow_give 6 _ rfl (by rfl) (by rfl) (fun wx hC hD=>?_) (fun x=>?_)
   ·refine give_enter (f:=?_) (args:=?_) ?_ ?_
    rotate_left 2
    ·have hSw:=hc1'.out wx hC
     go_simp
     all_goals first | with_reducible rfl | (refine ⟨?_,?_⟩ <;> with_reducible rfl)
    refine (CPL.out wx hC).mono ?_
    rintro e w9 ⟨rfl,hb9⟩
    exact ⟨_,rfl,hb9,hC.trans (hb9.mono hC.size),(),rfl,trivial⟩
   obtain ⟨⟩:=x
   try simp only [Act.put,zD,zE,zF]
   iterate 5
    refine grow_fix _ ?_ rfl (by rfl) (by rfl) (fun wx hC hD=>?_) ?_
    rotate_left
    ·have hSw:=hc1'.out wx hC
     go_simp
     all_goals with_reducible rfl
    try simp only [Act.put,zD,zE,zF]
   refine grow_nil (fun wz hC hF=>?_)
   have HBz:=zh (hB.out.trans (hC.mono (by have h9:=hB.out.size; omega)))
   have hXz:=hX.out.below hC hX.out.lt
   have hYz:=hY.out.below hC hY.out.lt
   have hRz:=hRx.out.below hC
   have HXz:=zh hXz
   have HYz:=zh hYz
   have HRz:=zh hRz
   have hbxz:=hYz.lt
   clear hF hC hXz hYz hRz hX hY hRx CPL hc1'
   try simp only [Act.put,zD,zE,zF]
   cases g with
   | false =>
    have e1:drop m1 x=m1:=HDN.out (by
     have:=HG.out
     cases e:get m1 x with
     | none=>rfl
     | some k=>rw [e] at this; cases this)
    have HE:=zh e1
    clear e1
    go_wp2
    go_roundw
    case rel=>exact ⟨k+1,A,n,c,O,by omega,by rw [HCS.out]; simp,by go_num,HXz,HYz,HRz,by rw [HDS.out,HE.out]; exact hL,HBz⟩
    case measure=>simp [intOf]; omega
   | true =>
    have hp1:=HGP.out rfl
    have HDI1:=zh (HDI.out rfl)
    have q0:=HXz.out.cell 0
    simp only [zA,zB] at q0
    have HOg:=zh (fun (wx:World) (hb:Below wz.heap.size wz wx)=>HRz.out.below hb)
    have R0:=zh (Row.empty 113 6 (by decide) wz)
    have hA0:Below wz.heap.size wz (wz.alloc (.cells #[] 113)):=(Below.refl _ _).alloc (zG _) _
    have HA0:=zh hA0
    have XT:=zh (encR_take O p)
    have XD:=fun q=>zh (encR_drop O q)
    have hxl:=HXz.out.lt
    clear hA0
    have hpi:(p:Int)≤(n:Int):=by omega
    have hpt:((p:Int)).toNat=p:=by omega
    have hp0:(0:Int)≤(p:Int):=by omega
    go_wp2_with (at_builtin; (refine wpList_append_any rfl _ _ 39 rfl (wz.heap.size) 113 i0 _ 6 96 Tryz.underlying39 hi0 hz0 hz1 hz2 rfl (by decide) (_) (0) ([]) rfl (R0.out.own) _ _ _ ((O.take p).flatMap encR) rfl ?r1 ?l1 ?o1 ?m1 ?b1 ?s1 ?_))
    try (case r1=>(have q:=reads_take (p:=p) ((HOg.out _ HA0.out).rd.reads (fun b hb=>hb.1.lt)) (by omega); rw [XT.out]; first | exact q | (rw [World.size_alloc] at q; exact q)))
    try (case l1=>first | exact Hnil.out | (intro e; first | (cases e; done) | exact Hnil.out e | (have:=Hnil.out e; omega) | (simp at e; done) | (simp at e; have:=Hnil.out e; omega)))
    try (case o1=>first | exact encR_one _ | (intro u y1 y2 y3 y4 y5 y6 y7 y8 hy hu; exact encR_one _ u (List.mem_flatMap.2 ⟨_,hy,hu⟩)))
    try (case m1=>unfold maxLen; omega)
    try (case b1=>omega)
    try (case s1=>first | omega | (simp; done) | (simp; omega))
    intro v1 w1 ho1 hg1 _
    have R1:Hid (Row 113 6 wz.heap.size wz w1 v1 p ((O.take p).flatMap encR)):=zh ⟨by simpa using ho1,R0.out.bel.grown hg1 (by simp) (fun b hb=>(R0.out.own.lt b hb).1)⟩
    have hsr1:=R1.out.bel.size
    have q1:=(R1.out.bel.cell (p:=⟨bx,0,none⟩) hxl).trans q0
    clear ho1 hg1 R0 HA0 q0
    have hqn1:((p:Int)+1)≤(n:Int):=by omega
    have hqt:((p:Int)+1).toNat=p+1:=by omega
    have hq0:(0:Int)≤(p:Int)+1:=by omega
    by_cases hcq:c=p+1
    ·go_wp2_with (at_builtin; (refine wpList_append_any rfl _ _ 39 rfl (wz.heap.size) 113 i0 _ 6 96 Tryz.underlying39 hi0 hz0 hz1 hz2 rfl (by decide) (v1) (p) (_) rfl (R1.out.own) _ _ _ ((O.drop (p+1)).flatMap encR) rfl ?r2 ?l2 ?o2 ?m2 ?b2 ?s2 ?_))
     try (case r2=>(rw [List.drop_eq_nil_of_le (by omega)]; exact ⟨(by have h0:n - (p+1)=0:=(by omega); simp [h0]),fun h=>absurd h (by omega)⟩))
     try (case l2=>first | exact Hnil.out | (intro e; first | (cases e; done) | exact Hnil.out e | (have:=Hnil.out e; omega) | (simp at e; done) | (simp at e; have:=Hnil.out e; omega)))
     try (case o2=>first | exact encR_one _ | (intro u y1 y2 y3 y4 y5 y6 y7 y8 hy hu; exact encR_one _ u (List.mem_flatMap.2 ⟨_,hy,hu⟩)))
     try (case m2=>unfold maxLen; omega)
     try (case b2=>omega)
     try (case s2=>first | omega | (simp; done) | (simp; omega))
     intro v5 w5 ho5 hg5 _
     have ho5':w5.ownsRow wz.heap.size 113 6 v5 (p+(n - (p+1))) ((O.take p).flatMap encR ++ (O.drop (p+1)).flatMap encR):=by first | exact ho5 | (simpa using ho5) | (rw [show p+(n - (p+1))=n - 1 from (by omega)]; simpa using ho5) | (rw [show n - (p+1)=0 from (by omega)]; simpa using ho5)
     have R5:=R1.out.app hsr1 ho5' hg5
     obtain ⟨A6,c6,rfl,hR6⟩:=HRz.out.cut R5 rfl hp1 hbxz
     have hX5:=HXz.out.below R5.bel hxl
     have hY5:=HYz.out.below R5.bel HYz.out.lt
     have hB5:=HBz.out.trans (R5.bel.mono (by have h9:=HBz.out.size; omega))
     have z0:=hX5.frozen 0
     have z1:=hX5.cell 0
     simp only [zA,zB] at z1
     have HX6:Hid (Blk (w5.setCell ⟨bx,0,none⟩ (.slice A6 (p+(n - (p+1))) c6)) bx 41 #[.slice A6 (p+(n - (p+1))) c6]):=zh (by simpa using hX5.set_ 0 (.slice A6 (p+(n - (p+1))) c6))
     have HY6:=zh (hY5.far (p:=⟨bx,0,none⟩) (by show bx+1≠bx; omega) (.slice A6 (p+(n - (p+1))) c6))
     have HR6:=zh (hR6.set (.inl rfl) (.slice A6 (p+(n - (p+1))) c6))
     have HB6:=zh (hB5.grown (grownBy_set w5 bx 0 (.slice A6 (p+(n - (p+1))) c6)) (by have:=hX5.lt; omega) (fun b hb=>by injection hb with hb; omega))
     clear ho5 ho5' hg5 R5 hR6 hX5 hY5 hB5
     go_wp2
     go_roundw
     case rel=>exact ⟨k+1,A6,p+(n - (p+1)),c6,O.take p ++ O.drop (p+1),by omega,by rw [HCS.out]; simp,by go_num,HX6,HY6,HR6,by rw [HDS.out]; exact HDI1,HB6⟩
     case measure=>simp [intOf]; omega
    ·go_wp2_with (at_builtin; (refine wpList_append_any rfl _ _ 39 rfl (wz.heap.size) 113 i0 _ 6 96 Tryz.underlying39 hi0 hz0 hz1 hz2 rfl (by decide) (v1) (p) (_) rfl (R1.out.own) _ _ _ ((O.drop (p+1)).flatMap encR) rfl ?r3 ?l3 ?o3 ?m3 ?b3 ?s3 ?_))
     try (case r3=>(have q:=reads_cut (p:=p+1) ((HOg.out _ R1.out.bel).rd.reads (fun b hb=>hb.1.lt)) (by omega) hcap; rw [if_neg hcq] at q; rw [(XD (p+1)).out]; first | exact q | (simpa [add_lit] using q)))
     try (case l3=>first | exact Hnil.out | (intro e; first | (cases e; done) | exact Hnil.out e | (have:=Hnil.out e; omega) | (simp at e; done) | (simp at e; have:=Hnil.out e; omega)))
     try (case o3=>first | exact encR_one _ | (intro u y1 y2 y3 y4 y5 y6 y7 y8 hy hu; exact encR_one _ u (List.mem_flatMap.2 ⟨_,hy,hu⟩)))
     try (case m3=>unfold maxLen; omega)
     try (case b3=>omega)
     try (case s3=>first | omega | (simp; done) | (simp; omega))
     intro v5 w5 ho5 hg5 _
     have ho5':w5.ownsRow wz.heap.size 113 6 v5 (p+(n - (p+1))) ((O.take p).flatMap encR ++ (O.drop (p+1)).flatMap encR):=by first | exact ho5 | (simpa using ho5) | (rw [show p+(n - (p+1))=n - 1 from (by omega)]; simpa using ho5) | (rw [show n - (p+1)=0 from (by omega)]; simpa using ho5)
     have R5:=R1.out.app hsr1 ho5' hg5
     obtain ⟨A6,c6,rfl,hR6⟩:=HRz.out.cut R5 rfl hp1 hbxz
     have hX5:=HXz.out.below R5.bel hxl
     have hY5:=HYz.out.below R5.bel HYz.out.lt
     have hB5:=HBz.out.trans (R5.bel.mono (by have h9:=HBz.out.size; omega))
     have z0:=hX5.frozen 0
     have z1:=hX5.cell 0
     simp only [zA,zB] at z1
     have HX6:Hid (Blk (w5.setCell ⟨bx,0,none⟩ (.slice A6 (p+(n - (p+1))) c6)) bx 41 #[.slice A6 (p+(n - (p+1))) c6]):=zh (by simpa using hX5.set_ 0 (.slice A6 (p+(n - (p+1))) c6))
     have HY6:=zh (hY5.far (p:=⟨bx,0,none⟩) (by show bx+1≠bx; omega) (.slice A6 (p+(n - (p+1))) c6))
     have HR6:=zh (hR6.set (.inl rfl) (.slice A6 (p+(n - (p+1))) c6))
     have HB6:=zh (hB5.grown (grownBy_set w5 bx 0 (.slice A6 (p+(n - (p+1))) c6)) (by have:=hX5.lt; omega) (fun b hb=>by injection hb with hb; omega))
     clear ho5 ho5' hg5 R5 hR6 hX5 hY5 hB5
     go_wp2
     go_roundw
     case rel=>exact ⟨k+1,A6,p+(n - (p+1)),c6,O.take p ++ O.drop (p+1),by omega,by rw [HCS.out]; simp,by go_num,HX6,HY6,HR6,by rw [HDS.out]; exact HDI1,HB6⟩
     case measure=>simp [intOf]; omega
  ·obtain rfl:k=m:=by omega
   have e1:ids.take k=ids:=by rw [← HM.out]; exact List.take_length
   rw [e1] at hL
   rw [e1]
   have q0:=hX.out.cell 0
   simp only [zA,zB] at q0
   have z0:=hY.out.frozen 0
   have z1:=hY.out.cell 0
   simp only [zA,zB] at z1
   have hX3:Hid (Blk (wr.setCell ⟨bx+1,0,none⟩ (.slice A n c)) (bx+1) 41 #[.slice A n c]):=zh (by simpa using hY.out.set_ 0 (.slice A n c))
   have hB3:Below bx w (wr.setCell ⟨bx+1,0,none⟩ (.slice A n c)):=hB.out.grown (grownBy_set wr _ 0 _) (by have:=hX.out.lt; omega) (fun b hb=>by injection hb with hb; omega)
   have HFIN:Hid (RDropP w l ids (.returned (.tuple #[.agg #[.slice A n c],.int .i64 (cntD l ids:Nat)])) (wr.setCell ⟨bx+1,0,none⟩ (.slice A n c))):=zh ⟨A,n,c,O,rfl,hL.out,(hRx.out.set (.inr rfl) _).at_,by rw [hbx]; exact hB3⟩
   clear hL hRx hB3 e1
   go_wp2
   refine bodyPost_ret (Mx.results_ct rfl rfl (run_loadVar_row _ (bx+1) 41 41 #[.slice A n c] (0,0) _ hX3.out Tryz.underlying41 rfl (by kernel_rfl))) rfl ?_
   exact HFIN.out
end Go.Proofs.YtlfpfkallgkjdaaGreat.Al
end

section
namespace Go.Proofs.YtlfpfkallgkjdaaGreat.Al
open Go.RowKit Go.Maps Ut Tk Qy Qp Ev Mv Rg
set_option maxHeartbeats 1600000 in
theorem rquery_any (A:Option Addr) (n c:Nat) (O:List Rk) (l:List (Int × Kp)) (i:Int) (w:World) (h:RAt w A n c O) (hl:RIs O l) (hu:UpI l) (hn:n≤4294967296) :
  Calls Tryz.prog 26 #[.agg #[.slice A n c],.int .i64 i] w fun e w'=>e=.returned (.tuple #[.string (textOf (get l i)),.bool (get l i).isSome])∧Below w.heap.size w w':=by
 have hb1:Below w.heap.size w (w.alloc (.cells #[.slice A n c] 41)):=(Below.refl _ _).alloc (zG _) _
 have HX:=zh (Blk.new w 41 #[.slice A n c])
 have HB:=zh hb1
 have CP:=zh (place_any A n c O l i _ (h.below hb1) hl hu hn)
 have H:=zh h
 have hln:=h.ln
 have HG:Hid (∀ k,get l i=some k→∃ h2:pos l i<O.length,O[pos l i].1.2=k):=zh (fun k hk=>by
  obtain ⟨h2,e⟩:=(parts hu i).2.2.1 (by rw [hk]; rfl)
  have h3:pos l i<O.length:=by have:=hl.len; omega
  refine ⟨h3,?_⟩
  have e2:=hl.get_ h3
  rw [List.getElem?_eq_getElem h2] at e2
  injection e2 with e2
  have e3:=mem_get hu (List.getElem_mem h2)
  rw [e,hk] at e3
  injection e3 with e3
  rw [← e2,e3])
 have hz:w.heap.size<(w.alloc (.cells #[.slice A n c] 41)).heap.size:=by simp
 obtain ⟨og,hog⟩:∃ og,get l i=og:=⟨_,rfl⟩
 rw [hog] at CP HG ⊢
 clear h hl hu hb1 hog
 go_enter Tryz.func26,Tryz.ntmps26
 go_upto_region 1 with (fail)
 generalize w.alloc (.cells #[.slice A n c] 41)=w1 at *
 have q0:=HX.out.cell 0
 simp only [zA,zB] at q0
 cases og with
 | none =>
  clear HG
  simp only [Option.isSome_none] at CP
  go_wp2_with fail
  refine CP.out.mono ?_
  rintro e w2 ⟨rfl,hb2⟩
  have FIN:=zh (HB.out.trans (hb2.mono HB.out.size))
  clear hb2 CP
  go_wp2
  go_ret2
  exact ⟨rfl,FIN.out⟩
 | some k =>
  simp only [Option.isSome_some] at CP
  obtain ⟨h2,hk⟩:=HG.out k rfl
  have hpn:((pos l i:Nat):Int)<(n:Int):=by omega
  obtain ⟨tb,tq,rfl,htb,_,hd1,_⟩:=(H.out.below HB.out).at_ h2
  rw [hk] at hd1
  have Htx:Hid (textOf (some k)=k.text):=zh rfl
  have Htx2:Hid (textOf (some k)=k.text):=Htx
  generalize k.text=tx at *
  clear HG hk
  generalize pos l i=p at *
  go_wp2_with fail
  refine CP.out.mono ?_
  rintro e w2 ⟨rfl,hb2⟩
  have FIN:=zh (HB.out.trans (hb2.mono HB.out.size))
  have q2:=(hb2.cell (p:=⟨w.heap.size,0,none⟩) hz).trans q0
  have d2:=(hb2.cell (p:=⟨tb,tq+p * 6+1,none⟩) htb).trans hd1
  clear hb2 CP q0 hd1
  go_wp2
  go_ret2
  exact ⟨by rw [Htx.out]; rfl,FIN.out⟩
set_option maxHeartbeats 1600000 in
theorem rids_any (A:Option Addr) (n c:Nat) (O:List Rk) (l:List (Int × Kp)) (w:World) (h:RAt w A n c O) (hl:RIs O l) (hn:n≤1000) :
  Calls Tryz.prog 28 #[.agg #[.slice A n c]] w (NumsP w (l.map (·.1))):=by
 obtain ⟨i0,hi0,hz0,hz1,hz2⟩:=info_parts int_info
 have hb1:Below w.heap.size w (w.alloc (.cells #[.slice A n c] 41)):=(Below.refl _ _).alloc (zG _) _
 have HX:=zh (Blk.new w 41 #[.slice A n c])
 have HB:=zh hb1
 have H:=zh h
 have hln:=h.ln
 have HL:Hid (l.map (·.1)=O.map (fun x=>x.1.1)):=zh (by rw [← show O.map (·.1)=l from hl,List.map_map]; rfl)
 have hsz:(w.alloc (.cells #[.slice A n c] 41)).heap.size=w.heap.size+1:=by simp
 clear h hl hb1
 go_enter Tryz.func28,Tryz.ntmps28
 go_upto_region 1 with (fail)
 generalize w.alloc (.cells #[.slice A n c] 41)=w1 at *
 go_wp2_with fail
 go_loopw [3,4] (fun v i wr=>∃ (u:Value) (k:Nat),u=v∧k≤n∧i=.int .i64 k∧Hid (wr.ownsRow (w.heap.size+1) 3 1 u k (itv ((O.take k).map (fun x=>x.1.1))))∧Hid (Below w.heap.size w wr)∧Hid (Blk wr w.heap.size 41 #[.slice A n c])) (fun _ i _=>n - (intOf i).toNat)
 case atStart=>exact ⟨_,0,rfl,Nat.zero_le _,rfl,zh (World.ownsRow_nil _ _ _ _),HB,HX⟩
 case round =>
  obtain ⟨u,k,rfl,hk,rfl,hO,hB,hX⟩:=hrel
  have hbw:=hB.out
  have hsw:=hbw.size
  have q0:=hX.out.cell 0
  simp only [zA,zB] at q0
  by_cases hlt:k<n
  ·have hkl:k<O.length:=by omega
   have hki:(k:Int)<(n:Int):=by omega
   obtain ⟨tb,tq,rfl,htb,hd0,_⟩:=(H.out.below hbw).at_ hkl
   have hts:O.take (k+1)=O.take k ++ [O[k]]:=List.take_succ_eq_append_getElem hkl
   have HTS:Hid (itv ((O.take (k+1)).map (fun x=>x.1.1))=itv ((O.take k).map (fun x=>x.1.1)) ++ [.int .i64 O[k].1.1]):=zh (by
    rw [hts]
    unfold itv
    rw [List.map_append,List.map_append]
    rfl)
   clear hts hbw
   generalize O[k].1.1=x at *
   generalize hzl:itv ((O.take k).map (fun x=>x.1.1))=zs at *
   clear hzl
   have hxl:=hX.out.lt
   go_wp2_with (first
    | (at_builtin; refine wpList_append_own_at _ rfl _ _ 38 rfl (w.heap.size+1) 3 i0 _ 1 8 Tryz.underlying38 hi0 hz0 hz1 hz2 rfl (by decide) _ k zs rfl (hO.out.alloc _) ⟨wr.heap.size,0,none⟩ 1 1 [.int .i64 x] rfl rfl (World.news_of_block (cs:=#[.int .i64 x]) (t:=3) (fr:=(0,0)) (heap_alloc_new wr _)) (by simp [Value.oneCell']) ?k1 ?k2 ?k3 ?_)
    | go_in)
   case k1=>unfold maxLen; omega
   case k2=>omega
   try (case k3=>rw [World.size_alloc]; omega)
   intro v4 w4 ho4 hg4 _ _
   have HO4:Hid (w4.ownsRow (w.heap.size+1) 3 1 v4 (k+1) (itv ((O.take (k+1)).map (fun x=>x.1.1)))):=zh (by rw [HTS.out]; exact ho4)
   have HB4:=zh ((hB.out.alloc hsw (.cells #[.int .i64 x] 3)).grown hg4 (by rw [World.size_alloc]; omega) (fun j hj=>by have:=(hO.out.lt j hj).1; omega))
   have HX4:=zh ((hX.out.alloc (.cells #[.int .i64 x] 3)).grown hg4 (fun e=>by have:=(hO.out.lt _ e.symm).1; omega))
   clear ho4 hg4
   go_wp2
   go_roundw
   case rel=>exact ⟨_,k+1,rfl,by omega,by go_num,HO4,HB4,HX4⟩
   case measure=>simp [intOf]; omega
  ·obtain rfl:k=n:=by omega
   have e1:O.take k=O:=by rw [← hln]; exact List.take_length
   rw [e1,← HL.out] at hO
   have hlen:(l.map (·.1)).length=k:=by rw [HL.out,List.length_map]; exact hln
   have HLEN:=zh hlen
   clear e1 hlen
   have FIN:Hid (NumsP w (l.map (·.1)) (.returned u) wr):=zh ⟨u,rfl,by rw [HLEN.out]; exact own_mono hO.out (by omega),hB.out⟩
   clear hO
   go_wp2
   go_ret
   exact FIN.out
end Go.Proofs.YtlfpfkallgkjdaaGreat.Al
end

section
namespace Go.Proofs.YtlfpfkallgkjdaaGreat.Al
open Go.RowKit Go.Maps Ut Tk Qy Qp Ev Mv
def missB (fs:List Fl) (l:List (Int × Kp)) (i:Int):Bool:=match get l i with
 | some k=>!matchB fs k.q
 | none=>true
theorem flEvt {w:World} {F:Option Addr} {fn fc:Nat} {fs:List Fl} (h:FlAt w w.heap.size F fn fc fs) (hck:chkE fs=0):EvAt w F fn fs:=⟨h.rd,h.len,h.few,fun f hf=>by have:=((chkE_ok hck).2 f hf).2.2; omega⟩
theorem flgrow {w w':World} {F:Option Addr} {fn fc:Nat} {fs:List Fl} (h:FlAt w w.heap.size F fn fc fs) (hb:Below w.heap.size w w'):FlAt w' w'.heap.size F fn fc fs:=(h.keep (fun b o hl=>hb.cell (p:=⟨b,o,none⟩) hl)).more hb.size
section
variable {w:World} {X cn M1 M2:Nat} {F1:Int→Option Value} {F2:ByteArray→Option Nat} {l:List (Int × Kp)}
set_option maxHeartbeats 1600000 in
theorem ask1_any {B1 B2:Nat} (i:Int) (hi:I64 i) (k:Kp) (t:Int) (F:Option Addr) (fn fc:Nat) (fs:List Fl) (hk:get l i=some k) (h:AlX w X cn M1 M2 F1 F2 l) (hF:EvAt w F fn fs)
  (g1:w.cell? ⟨B1,0,none⟩=some (.pointer (some ⟨X,0,none⟩))) (g2:w.cell? ⟨B2,0,none⟩=some (.int .i64 t)) (g3:w.cell? ⟨B2,1,none⟩=some (.slice F fn fc)) (hB1:B1<w.heap.size) (hB2:B2<w.heap.size) :
  Calls Tryz.prog 45 #[.int .i64 i,.pointer (some ⟨B1,0,none⟩),.pointer (some ⟨B2,0,none⟩)] w fun e w'=>e=.returned (.bool (!matchB fs k.q))∧Below w.heap.size w w':=by
 obtain ⟨v,hv1,hv2⟩:=h.al.kv i k hk
 have hko:=h.al.ok _ (get_mem hk)
 obtain ⟨A1,n1,c1,A2,n2,c2,A,c,rfl,hq,_⟩:=hv2.parts
 have hqat:QAt w w.heap.size k.q [.int .i64 k.q.kind,.string k.q.name,.slice A1 n1 c1,.slice A2 n2 c2]:=hq.at_ (fun b hb=>hb.lt)
 have HMT:Hid (∀ wx,Below w.heap.size w wx→Calls Tryz.prog 46 #[.agg #[.int .i64 k.q.kind,.string k.q.name,.slice A1 n1 c1,.slice A2 n2 c2],.agg #[.int .i64 t,.slice F fn fc]] wx fun e w'=>e=.returned (.bool (matchB fs k.q))∧Below wx.heap.size wx w') :=
  zh (fun wx hb=>match_any fs k.q hko.q.sz wx _ _ _ _ t F fn fc (hqat.grow hb) (hF.grow hb))
 have HLK:=zh (looksI h.al.m1.v lawI Tryz.underlying83 Tryz.zeroValue92 i (keyI hi) (u:=.agg #[.string k.text,.int .i64 k.q.kind,.string k.q.name,.slice A1 n1 c1,.slice A2 n2 c2,.slice A k.needs.length c]) (by rw [hv1]; rfl))
 have hX:=h.blk
 have Hcells:Hid (∀ wx,Below w.heap.size w wx→wx.cell? ⟨X,0,none⟩=some (.map (some M1))∧wx.cell? ⟨B1,0,none⟩=some (.pointer (some ⟨X,0,none⟩))∧wx.cell? ⟨B2,0,none⟩=some (.int .i64 t)∧wx.cell? ⟨B2,1,none⟩=some (.slice F fn fc)):=zh (fun wx hb=>by
  have k1:=(hX.below hb hX.lt).cell 0
  simp only [zA,zB] at k1
  exact ⟨k1,(hb.cell (p:=⟨B1,0,none⟩) hB1).trans g1,(hb.cell (p:=⟨B2,0,none⟩) hB2).trans g2,(hb.cell (p:=⟨B2,1,none⟩) hB2).trans g3⟩)
 have hfq:=field_q
 clear hv1 hv2 hko hq hqat hX h hF hk
 generalize k.needs.length=nn at *
 generalize k.text=tx at *
 generalize k.q.kind=qk at *
 generalize k.q.name=qn at *
 generalize matchB fs k.q=mb at *
 go_enter Tryz.func45,Tryz.ntmps45
 go_upto_region 1 with (fail)
 refine wp_region_grow (specOf [(8,⟨Unit,fun _=>.bool mb,fun _ _=>True⟩)]) (fun wx=>Below (World.heap w).size w wx) (fun w1 w2=>Below w1.heap.size w1 w2) (by kernel_rfl) (by kernel_rfl) (stab_cons (fun x wa wb hg h=>trivial) (stab_nil)) (Below.refl _ _).drew ?_
 iterate 5
  refine grow_fix _ ?_ rfl (by rfl) (by rfl) (fun wx hC hD=>?_) ?_
  rotate_left
  ·have hSw:=Hcells.out wx hC
   go_simp
   all_goals with_reducible rfl
  try simp only [Act.put,zD,zE,zF]
 refine grow_fix 6 ?_ rfl (by rfl) (by rfl) (fun wx hC hD=>?_) ?_
 rotate_left
 ·have hlk:=HLK.out wx hC
  have hSw:=Hcells.out wx hC
  go_simp
  all_goals with_reducible rfl
 try simp only [Act.put,zD,zE,zF]
 refine grow_fix 7 ?_ rfl (by rfl) (by rfl) (fun wx hC hD=>?_) ?_
 rotate_left
 ·have hfq2:=field_q tx qn qk A1 A2 A n1 c1 n2 c2 nn c wx
  have hSw:=Hcells.out wx hC
  go_simp
  all_goals with_reducible rfl
 try simp only [Act.put,zD,zE,zF]
 refine grow_fix 8 ?_ rfl (by rfl) (by rfl) (fun wx hC hD=>?_) ?_
 rotate_left
 ·have hSw:=Hcells.out wx hC
  go_simp
  all_goals with_reducible rfl
 try simp only [Act.put,zD,zE,zF]
 refine grow_give 9 _ rfl (by rfl) (by rfl) (fun wx hC hD=>?_) (fun x=>?_)
 ·refine give_enter (f:=?_) (args:=?_) ?_ ?_
  rotate_left 2
  ·have hSw:=Hcells.out wx hC
   go_simp
   all_goals first | with_reducible rfl | (refine ⟨?_,?_⟩ <;> with_reducible rfl)
  refine (HMT.out wx hC).mono ?_
  rintro e w9 ⟨rfl,hb9⟩
  exact ⟨_,rfl,hb9,hC.trans (hb9.mono hC.size),(),rfl,trivial⟩
 obtain ⟨⟩:=x
 try simp only [Act.put,zD,zE,zF]
 iterate 2
  refine grow_fix _ ?_ rfl (by rfl) (by rfl) (fun wx hC hD=>?_) ?_
  rotate_left
  ·have hSw:=Hcells.out wx hC
   go_simp
   all_goals with_reducible rfl
  try simp only [Act.put,zD,zE,zF]
 refine grow_nil (fun w5 hC hF=>?_)
 have FIN:=zh hC
 clear hF hC
 go_wp2
 go_ret
 exact ⟨rfl,FIN.out⟩
set_option maxHeartbeats 1600000 in
theorem ask_any (t:Int) (F:Option Addr) (fn fc:Nat) (fs:List Fl) (hF:FlAt w w.heap.size F fn fc fs) (h:AlX w X cn M1 M2 F1 F2 l) (hll:l.length≤1000) :
  Calls Tryz.prog 17 #[.pointer (some ⟨X,0,none⟩),.agg #[.int .i64 t,.slice F fn fc]] w (NumsP w (if chkE fs=0 then (l.filter (fun x=>matchB fs x.2.q)).map (·.1) else [])):=by
 have hb1:Below w.heap.size w (w.alloc (.cells #[.pointer (some ⟨X,0,none⟩)] 22)):=(Below.refl _ _).alloc (zG _) _
 have hb2:Below (w.alloc (.cells #[.pointer (some ⟨X,0,none⟩)] 22)).heap.size (w.alloc (.cells #[.pointer (some ⟨X,0,none⟩)] 22)) ((w.alloc (.cells #[.pointer (some ⟨X,0,none⟩)] 22)).alloc (.cells #[.int .i64 t,.slice F fn fc] 33)):=(Below.refl _ _).alloc (zG _) _
 have hx1:=(Blk.new w 22 #[.pointer (some ⟨X,0,none⟩)]).below hb2 (by simp)
 have hx2:=Blk.new (w.alloc (.cells #[.pointer (some ⟨X,0,none⟩)] 22)) 33 #[.int .i64 t,.slice F fn fc]
 have hsz:(w.alloc (.cells #[.pointer (some ⟨X,0,none⟩)] 22)).heap.size=w.heap.size+1:=by simp
 rw [hsz] at hx2
 have hb:=hb1.trans (hb2.mono (by omega))
 have HX1:=zh hx1
 have HX2:=zh hx2
 have HB:=zh hb
 have H:=zh h
 have HF:=zh hF
 clear hb1 hb2 hx1 hx2 hb h hF hsz
 obtain ⟨RR,hRR⟩:∃ RR,(if chkE fs=0 then (l.filter (fun x=>matchB fs x.2.q)).map (·.1) else [])=RR:=⟨_,rfl⟩
 rw [hRR]
 have HRR:=zh hRR
 clear hRR
 go_enter Tryz.func17,Tryz.ntmps17
 go_upto_region 1 with (fail)
 generalize ((w.alloc (.cells #[.pointer (some ⟨X,0,none⟩)] 22)).alloc (.cells #[.int .i64 t,.slice F fn fc] 33))=w1 at *
 have g1:=HX1.out.cell 0
 have g2:=HX2.out.cell 0
 have g3:=HX2.out.cell 1
 simp only [zA,zB,zC] at g1 g2 g3
 have c1:=near_any t F fn fc fs (flgrow HF.out HB.out) (H.out.below HB.out) hll
 go_wp2_with fail
 refine c1.mono ?_
 rintro e w2 ⟨v,rfl,hown,hbw⟩
 have hXl:=HX1.out.lt
 have hXl2:=HX2.out.lt
 have hsz:=HB.out.size
 clear c1 g1 g2 g3
 obtain ⟨L,hL⟩:∃ L,(if chkE fs=0 then nearL (hasT fs) l else [])=L:=⟨_,rfl⟩
 rw [hL] at hown
 have hll2:L.length≤4294967296:=by
  rw [← hL]
  split
  ·unfold nearL
   rw [List.length_map]
   exact Nat.le_trans (List.length_filter_le _ _) (by omega)
  ·simp
 have hkeep:keepL (missB fs l) L=RR:=by
  rw [← HRR.out,← hL]
  by_cases hck:chkE fs=0
  ·rw [if_pos hck,if_pos hck]
   have hu:=H.out.al.up
   unfold nearL keepL
   rw [← ask_near (hasT fs) (fun k=>matchB fs k.q) l (fun x hx hm=>by
    unfold nearB
    rw [(H.out.al.ok x hx).nd]
    exact near_match fs x.2.q hm)]
   rw [List.filter_map]
   congr 1
   refine List.filter_congr (fun x hx=>?_)
   have:=mem_get hu (List.mem_filter.1 hx).1
   show (!missB fs l x.1)=_
   unfold missB
   rw [this]
   simp
  ·rw [if_neg hck,if_neg hck]; rfl
 have CD:=del_any (w:=w2) hown hll2 45 #[.pointer (some ⟨w.heap.size,0,none⟩),.pointer (some ⟨w.heap.size+1,0,none⟩)] (missB fs l) (callFunc_enter Tryz.func45 (by kernel_rfl) rfl) (fun x hx wx hg=>by
  have hck:chkE fs=0:=by
   refine Classical.byContradiction fun hc=>?_
   rw [← hL,if_neg hc] at hx
   cases hx
  rw [← hL,if_pos hck,nearL_mem H.out.al.up] at hx
  obtain ⟨k,hk,_⟩:=hx
  have hbx:Below w1.heap.size w1 wx:=hbw.grown hg hbw.size (fun b hb=>(hown.lt b hb).1)
  have r1:=HX1.out.below hbx hXl
  have r2:=HX2.out.below hbx hXl2
  have g1:=r1.cell 0
  have g2:=r2.cell 0
  have g3:=r2.cell 1
  simp only [zA,zB,zC] at g1 g2 g3
  have hr:=H.out.al.rng _ (get_mem hk)
  have e1:missB fs l x=!matchB fs k.q:=by unfold missB; rw [hk]
  rw [e1]
  exact ask1_any x (I64.of hr) k t F fn fc fs hk (H.out.below (HB.out.trans (hbx.mono hsz))) (flEvt (flgrow HF.out (HB.out.trans (hbx.mono hsz))) hck) g1 g2 g3 r1.lt r2.lt)
 rw [hkeep] at CD
 have HCD:=zh CD
 have HBW:=zh hbw
 have HON:Hid (∀ b,v.ownBlock=some b→w1.heap.size≤b):=zh (fun b hb=>(hown.lt b hb).1)
 clear CD hbw hown hkeep hL hll2
 go_wp2_with fail
 refine HCD.out.mono ?_
 rintro e w3 ⟨v3,rfl,ho3,hg3,hob3⟩
 have FIN:Hid (NumsP w RR (.returned v3) w3):=zh ⟨v3,rfl,own_mono ho3 hsz,(HB.out.trans (HBW.out.mono hsz)).grown hg3 (by have:=HBW.out.size; omega) (fun b hb=>by have:=HON.out b hb; omega)⟩
 clear ho3 hg3 hob3
 go_wp2
 go_ret
 exact FIN.out
end
end Go.Proofs.YtlfpfkallgkjdaaGreat.Al
end

section
namespace Go.Proofs.YtlfpfkallgkjdaaGreat.Al
open Go.RowKit Go.Maps Ut Tk Qy Qp Ev Mv
theorem reads_gr {w w':World} {k n:Nat} {A:Option Addr} {xs:List Value} (hb:Below w.heap.size w w') (h:Reads w w.heap.size k A n xs):Reads w' w'.heap.size k A n xs:=reads_grow hb h
set_option maxHeartbeats 1600000 in
theorem sameInt_eq (F1 F2:Option Addr) (n c1 c2:Nat) (ps:List Int) (w:World) (h1:Reads w w.heap.size 1 F1 n (itv ps)) (h2:Reads w w.heap.size 1 F2 n (itv ps)) (hl:ps.length=n) (hn:n≤8796093021952) :
  Calls Tryz.prog 18 #[.slice F1 n c1,.slice F2 n c2] w fun e w'=>e=.returned (.bool true)∧Below w.heap.size w w':=by
 have H1:=zh h1
 have H2:=zh h2
 have Hl:=zh hl
 clear h1 h2 hl
 go_enter Tryz.func18,Tryz.ntmps18
 go_wp2
 go_loopw [5] (fun i wr=>∃ k:Nat,k≤n∧i=.int .i64 k∧Below w.heap.size w wr) (fun i _=>n - (intOf i).toNat)
 case atStart=>exact ⟨0,Nat.zero_le _,rfl,Below.refl _ _⟩
 case round =>
  obtain ⟨k,hk,rfl,hb⟩:=hrel
  by_cases hlt:k<n
  ·have hkp:k<ps.length:=by rw [Hl.out]; exact hlt
   have hcl:(itv ps)[k]?=some (.int .i64 ps[k]):=itv_get ps k hkp
   obtain ⟨b1,o1,rfl,hl1,g1⟩:=(reads_gr hb H1.out).2 (by omega)
   obtain ⟨b2,o2,rfl,hl2,g2⟩:=(reads_gr hb H2.out).2 (by omega)
   have g1:=g1 k _ hcl
   have g2:=g2 k _ hcl
   generalize ps[k]=s at *
   have hss:(s != s)=false:=by simp
   have hi0:(0:Int)≤(k:Int):=by omega
   have hi1:(k:Int)<(n:Int):=by omega
   have Hb:=zh hb
   clear hb hcl hkp
   go_wp2_with fail
   go_quiet (fail)
   go_wp2
   go_roundw
   case rel=>exact ⟨k+1,by omega,by go_num,Mx.below_dN Hb.out nq⟩
   case measure=>simp [intOf]; omega
  ·obtain rfl:k=n:=by omega
   have Hb:=zh hb
   clear hb
   go_wp2
   go_ret
   exact ⟨rfl,Hb.out⟩
def TextP (w:World) (s:ByteArray) (e:Ending) (w':World):Prop:=∃ g,e=.returned (.agg #[.int .i64 0,.slice (some ⟨g,0,none⟩) 1 1])∧FlAt w' w'.heap.size (some ⟨g,0,none⟩) 1 1 [(exM,s)]∧Below w.heap.size w w'
set_option maxHeartbeats 800000 in
theorem text_any (s:ByteArray) (w:World) (hs:s.size≤1000):Calls Tryz.prog 38 #[.string s] w (TextP w s):=by
 have hB1:Below w.heap.size w ((w.alloc (.cells #[.int .i64 0,.slice (some ⟨w.heap.size+1,0,none⟩) 1 1] 33)).alloc (.cells #[.string ⟨#[109,115,103]⟩,.string s] 99)):=((Below.refl _ _).alloc (zG _) _).alloc (by simp) _
 have hX1:=(Blk.new w 33 #[.int .i64 0,.slice (some ⟨w.heap.size+1,0,none⟩) 1 1]).alloc (.cells #[.string ⟨#[109,115,103]⟩,.string s] 99)
 have hF:=Rg.new_row (k:=2) (w.alloc (.cells #[.int .i64 0,.slice (some ⟨w.heap.size+1,0,none⟩) 1 1] 33)) 99 [.string ⟨#[109,115,103]⟩,.string s] 1 rfl (by omega)
 have H:=zh (And.intro hX1 (And.intro hF hB1))
 clear hX1 hF hB1
 go_enter Tryz.func38,Tryz.ntmps38
 go_wp2_with fail
 refine bodyPost_ret (results_cell rfl rfl (run_loadVar_row _ w.heap.size 33 33 #[.int .i64 0,.slice (some ⟨w.heap.size+1,0,none⟩) 1 1] (0,0) _ H.out.1 Tryz.underlying33 rfl (by kernel_rfl))) rfl ⟨w.heap.size+1,rfl,⟨?_,rfl,by omega,zG _,fun f hf=>?_,fun h=>(nomatch h)⟩,H.out.2.2⟩
 ·have:=H.out.2.1
  have e:(World.heap (w.alloc (.cells #[.int .i64 0,.slice (some ⟨w.heap.size+1,0,none⟩) 1 1] 33))).size=w.heap.size+1:=World.size_alloc _ _
  rw [e] at this
  exact this
 ·rw [List.mem_singleton] at hf
  subst hf
  exact ⟨show exM.size≤140737488351232 by decide,by show s.size≤_; omega⟩
theorem nums_reads {w w':World} {L:List Int} {v:Value} (h:w'.ownsRow w.heap.size 3 1 v L.length (itv L)):∃ A c,v=.slice A L.length c∧Reads w' w'.heap.size 1 A L.length (itv L):=by
 obtain ⟨A,c,rfl,hR,_⟩:=Ev.own_shape2 h
 exact ⟨A,c,rfl,hR⟩
set_option maxHeartbeats 6400000 in
theorem awake_any (w:World):Calls Tryz.prog 13 #[] w fun e w'=>e=.returned (.bool true)∧Below w.heap.size w w':=by
 go_enter Tryz.func13,Tryz.ntmps13
 go_wp2_with fail
 refine (new_any w).mono ?_
 rintro e w1 ⟨X,M1,M2,rfl,hX1,hb1,hM1,hM2,hXn⟩
 have HX1:=zh hX1
 have HB1:=zh hb1
 have C1:=zh (puts_any 3 (I64.of (by decide)) ⟨#[100,105,115,107,32,102,117,108,108]⟩ hX1 (by simp) (by omega))
 clear hX1 hb1
 go_wp2_with fail
 refine C1.out.mono ?_
 rintro e w2 ⟨E1,la,F1a,F2a,hp1,rfl,hX2,hc2,ho2⟩
 obtain ⟨rfl,hla⟩:=hp1.det (PutR.ok (q:=qA) (by decide) prsA (.inr (by decide)))
 rw [show put [] 3 ⟨⟨#[100,105,115,107,32,102,117,108,108]⟩,qA,needs qA⟩=[(3,kA)] from l1] at hla
 subst hla
 have hb2:Below w.heap.size w w2:=HB1.out.trans (hc2.below HB1.out.size (fun b hb=>by
  rcases hb with rfl | rfl | ⟨s,hs⟩
  ·exact hM1
  ·exact hM2
  ·cases hs))
 have ho2':∀ b,Own M1 M2 F2a b→w.heap.size≤b:=fun b hb=>by
  rcases ho2 b hb with (rfl | rfl | ⟨s,hs⟩) | h
  ·exact hM1
  ·exact hM2
  ·cases hs
  ·have:=HB1.out.size; omega
 have HX2:=zh hX2
 have HB2:=zh hb2
 have C2:=zh (puts_any 5 (I64.of (by decide)) ⟨#[78,79,84,32,100,105,115,107]⟩ hX2 (by decide) (by omega))
 clear hX2 hb2 hc2 ho2 hp1 C1 HX1
 go_wp2_with fail
 refine C2.out.mono ?_
 rintro e w3 ⟨E2,lb,F1b,F2b,hp2,rfl,hX3,hc3,ho3⟩
 obtain ⟨rfl,hlb⟩:=hp2.det (PutR.ok (q:=qB) (by decide) prsB (.inr (by decide)))
 rw [show put [(3,kA)] 5 ⟨⟨#[78,79,84,32,100,105,115,107]⟩,qB,needs qB⟩=[(3,kA),(5,kB)] from l2] at hlb
 subst hlb
 have hb3:Below w.heap.size w w3:=HB2.out.trans (hc3.below HB2.out.size (fun b hb=>ho2' b hb))
 have HX3:=zh hX3
 have HB3:=zh hb3
 have CT1:=zh (text_any sE1 w3 (by decide))
 clear hX3 hb3 hc3 ho3 hp2 C2 HX2 ho2'
 go_wp2_with fail
 refine CT1.out.mono ?_
 rintro e w4 ⟨g1,rfl,hf1,hb4⟩
 have HX4:=zh (HX3.out.below hb4)
 have HB4:=zh (HB3.out.trans (hb4.mono HB3.out.size))
 have CA1:=zh (ask_any 0 (some ⟨g1,0,none⟩) 1 1 [(exM,sE1)] hf1 HX4.out (by decide))
 have hk1:(if chkE [(exM,sE1)]=0 then (([(3,kA),(5,kB)]:List (Int × Kp)).filter (fun x=>matchB [(exM,sE1)] x.2.q)).map (·.1) else [])=[3]:=by rw [if_pos (by decide +kernel),a1]
 rw [hk1] at CA1
 clear hf1 hb4 hk1 CT1
 go_wp2_with fail
 refine CA1.out.mono ?_
 rintro e w5 ⟨v5,rfl,ho5,hb5⟩
 obtain ⟨A5,c5,rfl,hR5⟩:=nums_reads ho5
 have HX5:=zh (HX4.out.below hb5)
 have HB5:=zh (HB4.out.trans (hb5.mono HB4.out.size))
 have HR5:=zh hR5
 have k6:Below w5.heap.size w5 (w5.alloc (.cells #[.int .i64 3] 3)):=(Below.refl _ _).alloc (zG _) _
 have r6:=Rg.new_row (k:=1) w5 3 [.int .i64 3] 1 rfl (by omega)
 have C6:=zh (sameInt_eq A5 (some ⟨w5.heap.size,0,none⟩) 1 c5 1 [3] (w5.alloc (.cells #[.int .i64 3] 3)) (reads_grow k6 hR5) r6 rfl (by omega))
 have HX6:=zh (HX5.out.below k6)
 have HB6:=zh (HB5.out.trans (k6.mono HB5.out.size))
 clear ho5 hb5 hR5 k6 r6 CA1
 go_wp2_with fail
 refine C6.out.mono ?_
 rintro e w7 ⟨rfl,hb7⟩
 have HX7:=zh (HX6.out.below hb7)
 have HB7:=zh (HB6.out.trans (hb7.mono HB6.out.size))
 have CT2:=zh (text_any sE2 w7 (by decide))
 clear hb7 C6
 go_wp2_with fail
 refine CT2.out.mono ?_
 rintro e w8 ⟨g2,rfl,hf2,hb8⟩
 have HX8:=zh (HX7.out.below hb8)
 have HB8:=zh (HB7.out.trans (hb8.mono HB7.out.size))
 have CA2:=zh (ask_any 0 (some ⟨g2,0,none⟩) 1 1 [(exM,sE2)] hf2 HX8.out (by decide))
 have hk2:(if chkE [(exM,sE2)]=0 then (([(3,kA),(5,kB)]:List (Int × Kp)).filter (fun x=>matchB [(exM,sE2)] x.2.q)).map (·.1) else [])=[5]:=by rw [if_pos (by decide +kernel),a2]
 rw [hk2] at CA2
 clear hf2 hb8 hk2 CT2
 go_wp2_with fail
 refine CA2.out.mono ?_
 rintro e w9 ⟨v9,rfl,ho9,hb9⟩
 obtain ⟨A9,c9,rfl,hR9⟩:=nums_reads ho9
 have HX9:=zh (HX8.out.below hb9)
 have HB9:=zh (HB8.out.trans (hb9.mono HB8.out.size))
 have k10:Below w9.heap.size w9 (w9.alloc (.cells #[.int .i64 5] 3)):=(Below.refl _ _).alloc (zG _) _
 have r10:=Rg.new_row (k:=1) w9 3 [.int .i64 5] 1 rfl (by omega)
 have C10:=zh (sameInt_eq A9 (some ⟨w9.heap.size,0,none⟩) 1 c9 1 [5] (w9.alloc (.cells #[.int .i64 5] 3)) (reads_grow k10 hR9) r10 rfl (by omega))
 have HX10:=zh (HX9.out.below k10)
 have HB10:=zh (HB9.out.trans (k10.mono HB9.out.size))
 clear ho9 hb9 hR9 k10 r10 CA2
 go_wp2_with fail
 refine C10.out.mono ?_
 rintro e w11 ⟨rfl,hb11⟩
 have HX11:=zh (HX10.out.below hb11)
 have HB11:=zh (HB10.out.trans (hb11.mono HB10.out.size))
 have C12:=zh (len_any HX11.out)
 clear hb11 C10
 go_wp2_with fail
 refine C12.out.mono ?_
 rintro e w12 ⟨rfl,hw⟩
 subst hw
 go_wp2
 go_ret
 exact ⟨rfl,HB11.out⟩
end Go.Proofs.YtlfpfkallgkjdaaGreat.Al
end
