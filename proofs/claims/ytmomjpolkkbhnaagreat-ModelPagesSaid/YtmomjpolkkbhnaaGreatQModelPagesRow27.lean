/- The model: search (printed by gen_mdh.py). -/
import Derived.Test.YtmomjpolkkbhnaaGreatQModelPagesRow22
import Derived.Test.YtmomjpolkkbhnaaGreatQModelPagesRow26
import Derived.Test.YtmomjpolkkbhnaaGreatQModelPagesRow0
set_option linter.unusedSimpArgs false
set_option linter.unusedVariables false
set_option maxRecDepth 20000
namespace Go.Proofs.YtmomjpolkkbhnaaGreat.Md
open Go.RowKit Ut Tk Qy Qp Ev
theorem qw_sz {K:Nat} {q:Q} (h:QW K q):QSz q:=by
 induction h with
 | mk h1 h2 h3 ih=>exact .mk h1 h2 ih
theorem prs_z {s:P} {E:Int} {o:Option Q} (h:PrsR s E o):(E=0∧∃ q,o=some q∧QSz q)∨(E≠0∧o=none):=by
 cases h with
 | @ok l q h hp hr hm hd =>
  have h1:=pieces_pc s.length s l (zG _) hp
  have h2:=pieces_many s.length s l (zG _) hp
  obtain ⟨K,_,hK⟩:=or_wide hr (fun x hx=>by have:=(h1 x hx).2; omega) (by omega)
  exact .inl ⟨rfl,q,rfl,qw_sz hK⟩
 | _=>exact .inr ⟨by decide,rfl⟩
def SeR (base:Nat) (w':World) (m:M) (r:Rq) (cs:Array Value):Prop:=∃ E o,PrsR r.q.data.toList E o∧((E≠0∧cs=rsC E 0 0 nil nil nil 0 0 0 0)∨(E=0∧limB r.lim=false∧cs=rsC 1 0 0 nil nil nil 0 0 0 0) ∨
 (∃ q D A c,E=0∧o=some q∧limB r.lim=true∧ByT (upL m (inB r.frm r.til q)) D∧DOwn w' base (.slice A D.length c) D∧cs=rsC 0 0 0 (.slice A (min D.length r.lim.toNat) c) nil nil 0 0 0 0))
def ReP (R:World→World→Array Value→Prop) (w:World) (e:Ending) (w':World):Prop:=∃ cs,e=.returned (.agg cs)∧Below w.heap.size w w'∧R w w' cs
section
variable {w:World} {n0 X K:Nat} {v:Value} {m:M}
set_option maxHeartbeats 6400000 in
theorem search_any (h:At w n0 X K v m) (hK:K≤60000) (r:Rq) (z:Rw):Calls Tryz.prog 33 #[.pointer (some ⟨X,0,none⟩),.agg (rqC r z)] w (ReP (fun w w' cs=>SeR w.heap.size w' m r cs) w):=by
 have hb:Below w.heap.size w ((w.alloc (.cells (rqC r z) 37)).alloc (.cells rs0 42)):=((Below.refl _ _).alloc (zG _) _).alloc (by simp) _
 have hq:=(Blk.new w 37 (rqC r z)).alloc (.cells rs0 42)
 have hr:=Blk.new (w.alloc (.cells (rqC r z) 37)) 42 rs0
 have z1:(w.alloc (.cells (rqC r z) 37)).heap.size=w.heap.size+1:=by simp
 rw [z1] at hr
 have H1:=zh (h.below hb)
 have HQ:=zh hq
 have HR:=zh hr
 have HB:=zh hb
 have hsw:w.heap.size+2≤(World.heap ((w.alloc (.cells (rqC r z) 37)).alloc (.cells rs0 42))).size:=by simp
 have hxl:=h.blk.lt
 have hfew:=h.few
 clear h hb hq hr z1
 go_enter Tryz.func33,Tryz.ntmps33
 go_upto_region 1 with (fail)
 generalize ((w.alloc (.cells (rqC r z) 37)).alloc (.cells rs0 42))=w1 at *
 have q4:=HQ.out.cell 4
 simp only [rqC,zA,zB,zC] at q4
 go_wp2_with fail
 refine (parse_any r.q w1).mono ?_
 rintro e w2 ⟨E,o,a0,a1,a2,a3,hp,rfl,hF,hb2⟩
 obtain ⟨A1,n1,c1,A2,n2,c2,e4⟩:=hF.four
 simp only [List.cons.injEq,and_true] at e4
 obtain ⟨rfl,rfl,rfl,rfl⟩:=e4
 have H2:=zh (H1.out.below hb2)
 have HR2:=zh (HR.out.below hb2 HR.out.lt)
 have HQ2:=zh (HQ.out.below hb2 HQ.out.lt)
 have HB2:=zh (HB.out.trans (hb2.mono HB.out.size))
 have HP:=zh hp
 have hqt:QAt w2 w2.heap.size (o.getD noQ) [.int .i64 (o.getD noQ).kind,.string (o.getD noQ).name,.slice A1 n1 c1,.slice A2 n2 c2]:=hF.at_ (fun b hb=>hb.2)
 have HQT:=zh hqt
 have hb3:Below w2.heap.size w2 (w2.alloc (.cells #[.int .i64 (o.getD noQ).kind,.string (o.getD noQ).name,.slice A1 n1 c1,.slice A2 n2 c2] 60)):=(Below.refl _ _).alloc (zG _) _
 have HBQ:=zh (Blk.new w2 60 #[.int .i64 (o.getD noQ).kind,.string (o.getD noQ).name,.slice A1 n1 c1,.slice A2 n2 c2])
 have HB32:=zh hb3
 clear hF hb2 hp hqt hb3 q4
 rcases prs_z HP.out with ⟨rfl,q,rfl,hqs⟩ | ⟨hE,rfl⟩
 ·have hk1:((some q:Option Q).getD noQ)=q:=rfl
  rw [hk1] at HQT HBQ HB32 ⊢
  have HQS:=zh hqs
  clear hk1 hqs
  have HQB:Hid (QBl (w2.alloc (.cells #[.int .i64 q.kind,.string q.name,.slice A1 n1 c1,.slice A2 n2 c2] 60)) w2.heap.size q):=zh ⟨A1,n1,c1,A2,n2,c2,HBQ.out,HQT.out.grow HB32.out⟩
  obtain ⟨qk,hqk⟩:∃ qk,q.kind=qk:=⟨_,rfl⟩
  obtain ⟨qn,hqn⟩:∃ qn,q.name=qn:=⟨_,rfl⟩
  have HKK:=zh (And.intro hqk hqn)
  rw [hqk,hqn] at HQT HBQ HB32 HQB ⊢
  clear hqk hqn
  have HB3:=zh (HB2.out.trans (HB32.out.mono HB2.out.size))
  have HR3:=zh (HR2.out.below HB32.out HR2.out.lt)
  have HQ3:=zh (HQ2.out.below HB32.out HQ2.out.lt)
  have H3:=zh (H2.out.below HB32.out)
  have HQT3:=zh (HQT.out.grow HB32.out)
  go_upto_region 2 with (fail)
  generalize w2.alloc (.cells #[.int .i64 qk,.string qn,.slice A1 n1 c1,.slice A2 n2 c2] 60)=w3 at *
  have q7:=HQ3.out.cell 7
  have q5:=HQ3.out.cell 5
  have q6:=HQ3.out.cell 6
  have k0:=HBQ.out.cell 0
  have k1:=HBQ.out.cell 1
  have k2:=HBQ.out.cell 2
  have k3:=HBQ.out.cell 3
  simp only [rqC,zA,zB,zC] at q5 q6 q7 k0 k1 k2 k3
  have CL:=zh (limited_any r.lim w3)
  have CD:Hid (Calls Tryz.prog 67 #[.pointer (some ⟨X,0,none⟩),.agg #[.int .i64 qk,.string qn,.slice A1 n1 c1,.slice A2 n2 c2],.int .i64 r.frm,.int .i64 r.til] w3 (DocsQ w3 (upL m (inB r.frm r.til q)))):=zh (docs_any H3.out hK q HQS.out _ _ _ _ r.frm r.til ⟨A1,n1,c1,A2,n2,c2,by rw [HKK.out.1,HKK.out.2]⟩ HQT3.out)
  have HLF:Hid (limB r.lim=true→1≤r.lim∧r.lim≤10000):=zh (fun h=>by simpa [limB] using h)
  obtain ⟨lb,hlb⟩:∃ lb,limB r.lim=lb:=⟨_,rfl⟩
  rw [hlb] at CL HLF
  have HLB:=zh hlb
  have HUL:Hid ((upL m (inB r.frm r.til q)).length≤60000):=zh (Nat.le_trans (List.length_filter_le _ _) (Nat.le_trans hfew hK))
  clear hlb
  generalize hu:upL m (inB r.frm r.til q)=U at *
  have HU:=zh hu
  clear hu
  cases lb with
  | false =>
   clear CD
   go_wp2_with fail
   refine CL.out.mono ?_
   rintro e w4 ⟨rfl,rfl⟩
   go_wp2_with fail
   refine (fails_any 1 _).mono ?_
   rintro e w4 ⟨rfl,hb4⟩
   have HB4:=zh (HB3.out.trans (hb4.mono HB3.out.size))
   have HR4:=zh (HR3.out.below hb4 HR3.out.lt)
   clear hb4
   have HX9:=zh (setRow_heap _ (w.heap.size+1) _ (rsC 1 0 0 nil nil nil 0 0 0 0) _ _ HR4.out)
   go_wp2_with (refine wpList_store_row (o:=⟨none,.store 42 _ _,_,_,_,_⟩) rfl 42 _ _ rfl (w.heap.size+1) (rsC 1 0 0 nil nil nil 0 0 0 0) rfl rfl 42 rs0 HR4.out (by kernel_rfl) rfl (by simp [rsC,Value.oneCell']) ?_)
   refine bodyPost_ret (results_cell rfl rfl (run_loadVar_row _ (w.heap.size+1) 42 42 _ (0,0) _ HX9.out Tryz.underlying42 rfl (by kernel_rfl))) rfl ?_
   exact ⟨_,rfl,below_setRow HB4.out (Nat.le_succ _) _,0,_,HP.out,.inr (.inl ⟨rfl,HLB.out,rfl⟩)⟩
  | true =>
   go_wp2_with fail
   refine CL.out.mono ?_
   rintro e w4 ⟨rfl,rfl⟩
   clear CL
   go_wp2_with fail
   refine CD.out.mono ?_
   rintro e w4 ⟨v4,D,rfl,hD,hT,hb4⟩
   obtain ⟨A3,c3,rfl,_,hc3,_⟩:=hD.read
   have HB4:=zh (HB3.out.trans (hb4.mono HB3.out.size))
   have HR4:=zh (HR3.out.below hb4 HR3.out.lt)
   have HQ4:=zh (HQ3.out.below hb4 HQ3.out.lt)
   have HD4:=zh hD
   have HT:=zh hT
   have hDl:D.length≤60000:=by rw [hT.perm.length_eq]; exact HUL.out
   have hs3:=HB3.out.size
   obtain ⟨hl1,hl2⟩:=HLF.out (by first | rfl | trivial)
   have hmn:min (D.length:Int) r.lim=((min D.length r.lim.toNat:Nat):Int):=by omega
   have hmc:((min D.length r.lim.toNat:Nat):Int)≤(c3:Int):=by omega
   clear hD hT hb4 CD q5 q6 q7 k0 k1 k2 k3
   have q7:=HQ4.out.cell 7
   simp only [rqC,zA,zB,zC] at q7
   obtain ⟨mn,hmd⟩:∃ mn,min D.length r.lim.toNat=mn:=⟨_,rfl⟩
   have HMD:=zh hmd
   rw [hmd] at hmn hmc
   clear hmd
   have HX9:=zh (setRow_heap _ (w.heap.size+1) _ (rsC 0 0 0 (.slice A3 mn c3) nil nil 0 0 0 0) _ _ HR4.out)
   go_wp2_with (refine wpList_store_row (o:=⟨none,.store 42 _ _,_,_,_,_⟩) rfl 42 _ _ rfl (w.heap.size+1) (rsC 0 0 0 (.slice A3 mn c3) nil nil 0 0 0 0) rfl rfl 42 rs0 HR4.out (by kernel_rfl) rfl (by simp [rsC,Value.oneCell']) ?_)
   refine bodyPost_ret (results_cell rfl rfl (run_loadVar_row _ (w.heap.size+1) 42 42 _ (0,0) _ HX9.out Tryz.underlying42 rfl (by kernel_rfl))) rfl ?_
   exact ⟨_,rfl,below_setRow HB4.out (Nat.le_succ _) _,0,_,HP.out,.inr (.inr ⟨q,D,A3,c3,rfl,rfl,HLB.out,by rw [HU.out]; exact HT.out,own_kp (HD4.out.mono hs3) (fun b hb=>setRow_other w4 _ b _ (fun e=>by
    subst e
    rcases hb with hb | hb
    ·exact absurd (hb.one ⟨_,_,HR4.out⟩) (by decide)
    ·exact absurd (hb.one ⟨_,_,HR4.out⟩) (by decide))),by rw [HMD.out]⟩)⟩
 ·have hE2:(E != 0)=true:=by simpa using hE
  have HE:=zh hE
  have HB3:=zh (HB2.out.trans (HB32.out.mono HB2.out.size))
  have HR3:=zh (HR2.out.below HB32.out HR2.out.lt)
  clear HBQ HQT hE
  generalize ((none:Option Q).getD noQ).kind=z1 at *
  generalize ((none:Option Q).getD noQ).name=z2 at *
  go_upto_region 2 with (fail)
  generalize w2.alloc (.cells #[.int .i64 z1,.string z2,.slice A1 n1 c1,.slice A2 n2 c2] 60)=w3 at *
  go_wp2_with fail
  refine (fails_any E _).mono ?_
  rintro e w4 ⟨rfl,hb4⟩
  have HB4:=zh (HB3.out.trans (hb4.mono HB3.out.size))
  have HR4:=zh (HR3.out.below hb4 HR3.out.lt)
  clear hb4
  have HX9:=zh (setRow_heap _ (w.heap.size+1) _ (rsC E 0 0 nil nil nil 0 0 0 0) _ _ HR4.out)
  go_wp2_with (refine wpList_store_row (o:=⟨none,.store 42 _ _,_,_,_,_⟩) rfl 42 _ _ rfl (w.heap.size+1) (rsC E 0 0 nil nil nil 0 0 0 0) rfl rfl 42 rs0 HR4.out (by kernel_rfl) rfl (by simp [rsC,Value.oneCell']) ?_)
  refine bodyPost_ret (results_cell rfl rfl (run_loadVar_row _ (w.heap.size+1) 42 42 _ (0,0) _ HX9.out Tryz.underlying42 rfl (by kernel_rfl))) rfl ?_
  exact ⟨_,rfl,below_setRow HB4.out (Nat.le_succ _) _,E,_,HP.out,.inl ⟨HE.out,rfl⟩⟩
end
end Go.Proofs.YtmomjpolkkbhnaaGreat.Md


