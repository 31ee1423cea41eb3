/- (*Model).Do (printed by gen_mdn.py). -/
import Derived.Test.YtmomjpolkkbhnaaGreatQModelPagesRow36
import Derived.Test.YtmomjpolkkbhnaaGreatQModelPagesRow38
import Derived.Test.YtmomjpolkkbhnaaGreatQModelPagesRow39
import Derived.Test.YtmomjpolkkbhnaaGreatQModelPagesRow0
set_option linter.unusedSimpArgs false
set_option linter.unusedVariables false
set_option maxRecDepth 20000
namespace Go.Proofs.YtmomjpolkkbhnaaGreat.Md
open Go.RowKit Ut Tk Qy Qp Ev Cu
open Hi (OwnB)
structure RqAt (w:World) (r:Rq) (z:Rw):Prop where
 ev:EvsAt w w.heap.size z.E z.en z.ec r.evs
 cur:Reads w w.heap.size 1 z.C z.cn (bv r.cur)
 cn:z.cn≤140737488351232∧z.cn≤z.cc∧(z.C=none→z.cc=0)
 ti:∀ e∈r.evs,I64 e.1
 nw:I64 r.now
 wd:r.width≤9223372036854775807
theorem RqAt.below {w w':World} {r:Rq} {z:Rw} (h:RqAt w r z) (hb:Below w.heap.size w w'):RqAt w' r z:=⟨h.ev.grow hb,(h.cur.below hb).more hb.size,h.cn,h.ti,h.nw,h.wd⟩
def Ten (cs:Array Value):Prop:=cs.size=10∧cs.all (·.oneCell')=true
theorem ten (e s f:Int) (A B C:Option Addr) (a1 a2 b1 b2 c1 c2:Nat) (p q r t:Int):Ten (rsC e s f (.slice A a1 a2) (.slice B b1 b2) (.slice C c1 c2) p q r t):=⟨rfl,by simp [rsC,Value.oneCell']⟩
theorem own_row {w:World} {g base k n:Nat} {T:TypeId} {v:Value} {xs:List Value} (h:w.ownsRow base T k v n xs) (hT:T≠42) (hg:Blk w g 42 rs0) (cs:Array Value) {b':Nat} (hb:b'≤base):(w.setRow g cs).ownsRow b' T k v n xs :=
 own_mono (own_same h (fun b hb=>setRow_other w g b cs (fun e=>by
  subst e
  exact hT ((tg_own h hb).one ⟨_,_,hg⟩)))) hb
section
variable {w:World} {b b' g:Nat} {m:M} {r:Rq} {cs ds:Array Value}
theorem SeR.row (h:SeR b w m r cs) (hb:b'≤b) (hg:Blk w g 42 rs0):SeR b' (w.setRow g ds) m r cs:=by
 obtain ⟨E,o,hp,h | h | ⟨q,D,A,c,h1,h2,h3,h4,h5,h6⟩⟩:=h
 ·exact ⟨E,o,hp,.inl h⟩
 ·exact ⟨E,o,hp,.inr (.inl h)⟩
 ·exact ⟨E,o,hp,.inr (.inr ⟨q,D,A,c,h1,h2,h3,h4,own_kp (h5.mono hb) (fun b hb=>setRow_other w g b _ (fun e=>by
   subst e
   rcases hb with hb | hb
   ·exact absurd (hb.one ⟨_,_,hg⟩) (by decide)
   ·exact absurd (hb.one ⟨_,_,hg⟩) (by decide))),h6⟩)⟩
theorem SeR.ten (h:SeR b w m r cs):Ten cs:=by
 obtain ⟨E,o,hp,⟨_,rfl⟩ | ⟨_,_,rfl⟩ | ⟨q,D,A,c,h1,h2,h3,h4,h5,rfl⟩⟩:=h <;> exact Md.ten ..
theorem OpR.row (h:OpR b w r cs) (hb:b'≤b) (hg:Blk w g 42 rs0):OpR b' (w.setRow g ds) r cs:=by
 obtain ⟨E,o,hp,h | h | ⟨v,h1,h2,h3,h4⟩⟩:=h
 ·exact ⟨E,o,hp,.inl h⟩
 ·exact ⟨E,o,hp,.inr (.inl h)⟩
 ·exact ⟨E,o,hp,.inr (.inr ⟨v,h1,h2,own_row h3 (by decide) hg _ hb,h4⟩)⟩
theorem OpR.ten (h:OpR b w r cs):Ten cs:=by
 obtain ⟨E,o,hp,⟨_,rfl⟩ | ⟨_,_,rfl⟩ | ⟨v,h1,h2,h3,rfl⟩⟩:=h
 ·exact Md.ten ..
 ·exact Md.ten ..
 ·obtain ⟨A,c,rfl,_⟩:=Ev.own_shape2 h3
  exact Md.ten ..
theorem HgR.row (h:HgR w m r b cs) (hb:b'≤b) (hg:Blk w g 42 rs0):HgR (w.setRow g ds) m r b' cs:=by
 obtain ⟨E,o,hp,h | h | ⟨q,D,h1,h2,h3,h4,h5 | ⟨h5,v,h6,h7⟩⟩⟩:=h
 ·exact ⟨E,o,hp,.inl h⟩
 ·exact ⟨E,o,hp,.inr (.inl h)⟩
 ·exact ⟨E,o,hp,.inr (.inr ⟨q,D,h1,h2,h3,h4,.inl h5⟩)⟩
 ·exact ⟨E,o,hp,.inr (.inr ⟨q,D,h1,h2,h3,h4,.inr ⟨h5,v,own_row h6 (by decide) hg _ hb,h7⟩⟩)⟩
theorem HgR.ten (h:HgR w m r b cs):Ten cs:=by
 obtain ⟨E,o,hp,⟨_,rfl⟩ | ⟨_,_,rfl⟩ | ⟨q,D,h1,h2,h3,h4,⟨_,rfl⟩ | ⟨h5,v,h6,rfl⟩⟩⟩:=h
 ·exact Md.ten ..
 ·exact Md.ten ..
 ·exact Md.ten ..
 ·obtain ⟨A,c,rfl,_⟩:=Ev.own_shape2 h6
  exact Md.ten ..
theorem TlR.row (h:TlR w m r b cs) (hb:b'≤b) (hg:Blk w g 42 rs0):TlR (w.setRow g ds) m r b' cs:=by
 obtain ⟨a,q,E,hd,h | h | ⟨qq,p,h1,h2,h3,h4,h5 | ⟨h5,A,c,v,h6,h7,h8⟩⟩⟩:=h
 ·exact ⟨a,q,E,hd,.inl h⟩
 ·exact ⟨a,q,E,hd,.inr (.inl h)⟩
 ·exact ⟨a,q,E,hd,.inr (.inr ⟨qq,p,h1,h2,h3,h4,.inl h5⟩)⟩
 ·exact ⟨a,q,E,hd,.inr (.inr ⟨qq,p,h1,h2,h3,h4,.inr ⟨h5,A,c,v,h6.keep hg (by decide) noS_rs (by simp) (fun b hb=>setRow_other w g b _ hb),own_row h7 (by decide) hg _ hb,h8⟩⟩)⟩
theorem TlR.ten (h:TlR w m r b cs):Ten cs:=by
 obtain ⟨a,q,E,hd,⟨_,rfl⟩ | ⟨_,_,rfl⟩ | ⟨qq,p,h1,h2,h3,h4,⟨_,rfl⟩ | ⟨h5,A,c,v,h6,h7,rfl⟩⟩⟩:=h
 ·exact Md.ten ..
 ·exact Md.ten ..
 ·exact Md.ten ..
 ·obtain ⟨A',c',rfl,_⟩:=Ev.own_shape2 h7
  exact Md.ten ..
end
def DoR (base:Nat) (w':World) (m:M) (r:Rq) (m':M) (cs:Array Value):Prop :=
 (r.op=1∧m'=(ing m r).1∧cs=(ing m r).2)∨(r.op=2∧m'={ m with acked:=(m.ds.length:Nat) }∧cs=rs0)∨(r.op=3∧m'=tickM m r.now∧cs=rsC (tickE m r.now) 0 0 nil nil nil 0 0 0 0)∨((r.op=4∨r.op=5)∧m'=m∧cs=rs0) ∨
 (r.op=6∧m'=expM m∧cs=expC m)∨(r.op=7∧m'=m∧SeR base w' m r cs)∨(r.op=8∧m'=m∧HgR w' m r base cs)∨(r.op=9∧m'=m∧OpR base w' r cs)∨(r.op=10∧m'=m∧TlR w' m r base cs)∨(r.op=11∧m'=m∧cs=statC m) ∨
 (¬ (1≤r.op∧r.op≤11)∧m'=m∧cs=rsC 272 0 0 nil nil nil 0 0 0 0)
def DoP (n0 X K:Nat) (v:Value) (m:M) (r:Rq) (w:World) (e:Ending) (w':World):Prop:=∃ v' m' cs,e=.returned (.agg cs)∧DoR w.heap.size w' m r m' cs∧At w' n0 X (K+64) v' m'∧Chg (fun b=>b=X∨v.ownBlock=some b) w w'∧((7≤r.op→Below w.heap.size w w'∧v'=v)∧OwnN w v v')
theorem chg_blk {O:Nat→Prop} {w w':World} {g:Nat} {T:TypeId} {cs:Array Value} (h:Chg O w w') (hb:Blk w g T cs) (hn:¬ O g):Blk w' g T cs:=(h.block g hb.lt hn).trans hb
theorem ing_ten (m:M) (r:Rq):Ten (ing m r).2:=by
 unfold ing
 split
 ·exact ten ..
 ·split
  ·exact ten ..
  ·split
   ·exact ten ..
   ·exact ten ..
theorem exp_ten (m:M):Ten (expC m):=by
 unfold expC
 split
 ·exact ten ..
 ·exact ten ..
section
variable {w:World} {n0 X K:Nat} {v:Value} {m:M}
set_option maxHeartbeats 25600000 in
theorem do_any (h:At w n0 X K v m) (hK:K≤59000) (hX:n0≤X) (r:Rq) (z:Rw) (hr0:RqAt w r z) :
  Calls Tryz.prog 11 #[.pointer (some ⟨X,0,none⟩),.agg (rqC r z)] w (DoP n0 X K v m r w):=by
 have hb:Below w.heap.size w ((w.alloc (.cells (rqC r z) 37)).alloc (.cells rs0 42)):=((Below.refl _ _).alloc (zG _) _).alloc (by simp) _
 have hq:=(Blk.new w 37 (rqC r z)).alloc (.cells rs0 42)
 have hr:=Blk.new (w.alloc (.cells (rqC r z) 37)) 42 rs0
 have z1:(w.alloc (.cells (rqC r z) 37)).heap.size=w.heap.size+1:=by simp
 rw [z1] at hr
 have H1:=zh (h.below hb)
 have HQ:=zh hq
 have HR:=zh hr
 have HB:=zh hb
 have hsw:w.heap.size+2≤(World.heap ((w.alloc (.cells (rqC r z) 37)).alloc (.cells rs0 42))).size:=by simp
 have hxl:=h.blk.lt
 have HRQ:=zh (hr0.below hb)
 have hgX:¬ (w.heap.size+1=X):=by omega
 have HGO:Hid (¬ (v.ownBlock=some (w.heap.size+1))):=zh (fun e=>by
  obtain ⟨vss,_,g2,_⟩:=h.own.ex
  have:=(tg_own g2 e).lt
  omega)
 have HN:Hid (∀ wx,Below w.heap.size w wx→Calls Tryz.prog 26 #[.pointer (some ⟨X,0,none⟩)] wx fun e w'=>e=.returned (.bool false)∧wx=w'):=zh (fun wx hb=>none_any (h.below hb).blk)
 have HW:Hid (∀ (e:Ending) (w':World),(∃ v' m' cs,e=.returned (.agg cs)∧DoR w.heap.size w' m r m' cs∧At w' n0 X (K+64) v' m'∧Chg (fun b=>b=X∨v.ownBlock=some b) w w'∧((7≤r.op→Below w.heap.size w w'∧v'=v)∧OwnN w v v'))→DoP n0 X K v m r w e w'):=zh (fun e w' h=>h)
 clear h hb hq hr z1 hr0
 go_enter Tryz.func11,Tryz.ntmps11
 go_upto_region 1 with (fail)
 generalize ((w.alloc (.cells (rqC r z) 37)).alloc (.cells rs0 42))=w1 at *
 go_wp2_with fail
 refine (HN.out w1 HB.out).mono ?_
 rintro e w2 ⟨rfl,rfl⟩
 have q0:=HQ.out.cell 0
 have q1:=HQ.out.cell 1
 have q2:=HQ.out.cell 2
 have q3:=HQ.out.cell 3
 have q4:=HQ.out.cell 4
 have q5:=HQ.out.cell 5
 have q6:=HQ.out.cell 6
 have q7:=HQ.out.cell 7
 have q8:=HQ.out.cell 8
 have q9:=HQ.out.cell 9
 have q10:=HQ.out.cell 10
 simp only [rqC,zA,zB,zC] at q0 q1 q2 q3 q4 q5 q6 q7 q8 q9 q10
 have hs1:=HB.out.size
 have hmf:∀ (fn:Fn) (first cap:Array Value) (w:World),(Instr.makeFunc fn first cap).run Tryz.prog w=.ok (.func fn first cap) w:=fun _ _ _ _=>rfl
 clear HN
 go_upto_region 4 with (fail)
 by_cases h1:r.op=1
 ·have e1:(r.op == 1)=true:=by rw [h1]; rfl
  have HOP:=zh h1
  clear h1
  go_wp2_with fail
  refine (ingest_any H1.out (by omega) r z HRQ.out.ev HRQ.out.ti hX).mono ?_
  rintro e w2 ⟨v2,rfl,ha2,hc2,ho2⟩
  have HR2:Hid (Blk w2 (w.heap.size+1) 42 rs0):=zh (chg_blk hc2 HR.out (fun e=>e.elim hgX HGO.out))
  have HTN:Hid (Ten ((ing m r).2)):=zh (ing_ten m r)
  have HD2:=zh (And.intro ha2 (And.intro hc2 ho2))
  clear ha2 hc2 ho2 q0 q1 q2 q3 q4 q5 q6 q7 q8 q9 q10
  have HX9:=zh (setRow_heap _ (w.heap.size+1) _ ((ing m r).2) _ _ HR2.out)
  go_wp2_with (refine wpList_store_row (o:=⟨none,.store 42 _ _,_,_,_,_⟩) rfl 42 _ _ rfl (w.heap.size+1) ((ing m r).2) rfl rfl 42 rs0 HR2.out (HTN.out.1 ▸ (by kernel_rfl:(Tryz.prog.info? 42).map (·.size)=some 10)) HTN.out.1.symm HTN.out.2 ?_)
  refine bodyPost_ret (results_cell rfl rfl (run_loadVar_row _ (w.heap.size+1) 42 42 _ (0,0) _ HX9.out Tryz.underlying42 rfl (HTN.out.1 ▸ (by kernel_rfl:(Tryz.prog.info? 42).map (·.size)=some 10)))) rfl ?_
  exact HW.out _ _ ⟨_,_,_,rfl,.inl ⟨HOP.out,rfl,rfl⟩,HD2.out.1.row HR2.out _,chg_row ((chg_bl HB.out).trans HD2.out.2.1 (fun x hx=>.inl hx)) (Nat.le_succ _) _,⟨fun hh=>by rw [HOP.out] at hh; omega,HD2.out.2.2.of HB.out.size⟩⟩
 ·have e1:(r.op == 1)=false:=by rw [beq_eq_false_iff_ne]; exact h1
  by_cases h2:r.op=2
  ·have e2:(r.op == 2)=true:=by rw [h2]; rfl
   have HOP:=zh h2
   clear h1 h2
   go_wp2_with fail
   refine (sync_any H1.out r z).mono ?_
   rintro e w2 ⟨rfl,ha2,hc2⟩
   have HR2:Hid (Blk w2 (w.heap.size+1) 42 rs0):=zh (chg_blk hc2 HR.out (hgX))
   have HTN:Hid (Ten (rs0)):=zh (ten ..)
   have HD2:=zh (And.intro ha2 hc2)
   clear ha2 hc2 q0 q1 q2 q3 q4 q5 q6 q7 q8 q9 q10
   have HX9:=zh (setRow_heap _ (w.heap.size+1) _ (rs0) _ _ HR2.out)
   go_wp2_with (refine wpList_store_row (o:=⟨none,.store 42 _ _,_,_,_,_⟩) rfl 42 _ _ rfl (w.heap.size+1) (rs0) rfl rfl 42 rs0 HR2.out (HTN.out.1 ▸ (by kernel_rfl:(Tryz.prog.info? 42).map (·.size)=some 10)) HTN.out.1.symm HTN.out.2 ?_)
   refine bodyPost_ret (results_cell rfl rfl (run_loadVar_row _ (w.heap.size+1) 42 42 _ (0,0) _ HX9.out Tryz.underlying42 rfl (HTN.out.1 ▸ (by kernel_rfl:(Tryz.prog.info? 42).map (·.size)=some 10)))) rfl ?_
   exact HW.out _ _ ⟨_,_,_,rfl,.inr (.inl ⟨HOP.out,rfl,rfl⟩),(HD2.out.1.row HR2.out _).more (Nat.le_add_right _ _),chg_row ((chg_bl HB.out).trans HD2.out.2 (fun x hx=>.inl (.inl hx))) (Nat.le_succ _) _,⟨fun hh=>by rw [HOP.out] at hh; omega,.inl rfl⟩⟩
  ·have e2:(r.op == 2)=false:=by rw [beq_eq_false_iff_ne]; exact h2
   by_cases h3:r.op=3
   ·have e3:(r.op == 3)=true:=by rw [h3]; rfl
    have HOP:=zh h3
    clear h1 h2 h3
    go_wp2_with fail
    refine (tick_any H1.out r z HRQ.out.nw).mono ?_
    rintro e w2 ⟨rfl,ha2,hc2⟩
    have HR2:Hid (Blk w2 (w.heap.size+1) 42 rs0):=zh (chg_blk hc2 HR.out (hgX))
    have HTN:Hid (Ten (rsC (tickE m r.now) 0 0 nil nil nil 0 0 0 0)):=zh (ten ..)
    have HD2:=zh (And.intro ha2 hc2)
    clear ha2 hc2 q0 q1 q2 q3 q4 q5 q6 q7 q8 q9 q10
    have HX9:=zh (setRow_heap _ (w.heap.size+1) _ (rsC (tickE m r.now) 0 0 nil nil nil 0 0 0 0) _ _ HR2.out)
    go_wp2_with (refine wpList_store_row (o:=⟨none,.store 42 _ _,_,_,_,_⟩) rfl 42 _ _ rfl (w.heap.size+1) (rsC (tickE m r.now) 0 0 nil nil nil 0 0 0 0) rfl rfl 42 rs0 HR2.out (HTN.out.1 ▸ (by kernel_rfl:(Tryz.prog.info? 42).map (·.size)=some 10)) HTN.out.1.symm HTN.out.2 ?_)
    refine bodyPost_ret (results_cell rfl rfl (run_loadVar_row _ (w.heap.size+1) 42 42 _ (0,0) _ HX9.out Tryz.underlying42 rfl (HTN.out.1 ▸ (by kernel_rfl:(Tryz.prog.info? 42).map (·.size)=some 10)))) rfl ?_
    exact HW.out _ _ ⟨_,_,_,rfl,.inr (.inr (.inl ⟨HOP.out,rfl,rfl⟩)),(HD2.out.1.row HR2.out _).more (Nat.le_add_right _ _),chg_row ((chg_bl HB.out).trans HD2.out.2 (fun x hx=>.inl (.inl hx))) (Nat.le_succ _) _,⟨fun hh=>by rw [HOP.out] at hh; omega,.inl rfl⟩⟩
   ·have e3:(r.op == 3)=false:=by rw [beq_eq_false_iff_ne]; exact h3
    by_cases h4:r.op=4
    ·have e4:(r.op == 4)=true:=by rw [h4]; rfl
     have HOP:=zh h4
     clear h1 h2 h3 h4
     go_wp2_with fail
     refine (nothing_any H1.out r z).mono ?_
     rintro e w2 ⟨rfl,ha2,hc2⟩
     have HR2:Hid (Blk w2 (w.heap.size+1) 42 rs0):=zh (chg_blk hc2 HR.out (hgX))
     have HTN:Hid (Ten (rs0)):=zh (ten ..)
     have HD2:=zh (And.intro ha2 hc2)
     clear ha2 hc2 q0 q1 q2 q3 q4 q5 q6 q7 q8 q9 q10
     have HX9:=zh (setRow_heap _ (w.heap.size+1) _ (rs0) _ _ HR2.out)
     go_wp2_with (refine wpList_store_row (o:=⟨none,.store 42 _ _,_,_,_,_⟩) rfl 42 _ _ rfl (w.heap.size+1) (rs0) rfl rfl 42 rs0 HR2.out (HTN.out.1 ▸ (by kernel_rfl:(Tryz.prog.info? 42).map (·.size)=some 10)) HTN.out.1.symm HTN.out.2 ?_)
     refine bodyPost_ret (results_cell rfl rfl (run_loadVar_row _ (w.heap.size+1) 42 42 _ (0,0) _ HX9.out Tryz.underlying42 rfl (HTN.out.1 ▸ (by kernel_rfl:(Tryz.prog.info? 42).map (·.size)=some 10)))) rfl ?_
     exact HW.out _ _ ⟨_,_,_,rfl,.inr (.inr (.inr (.inl ⟨.inl HOP.out,rfl,rfl⟩))),(HD2.out.1.row HR2.out _).more (Nat.le_add_right _ _),chg_row ((chg_bl HB.out).trans HD2.out.2 (fun x hx=>.inl (.inl hx))) (Nat.le_succ _) _,⟨fun hh=>by rw [HOP.out] at hh; omega,.inl rfl⟩⟩
    ·have e4:(r.op == 4)=false:=by rw [beq_eq_false_iff_ne]; exact h4
     by_cases h5:r.op=5
     ·have e5:(r.op == 5)=true:=by rw [h5]; rfl
      have HOP:=zh h5
      clear h1 h2 h3 h4 h5
      go_wp2_with fail
      refine (nothing_any H1.out r z).mono ?_
      rintro e w2 ⟨rfl,ha2,hc2⟩
      have HR2:Hid (Blk w2 (w.heap.size+1) 42 rs0):=zh (chg_blk hc2 HR.out (hgX))
      have HTN:Hid (Ten (rs0)):=zh (ten ..)
      have HD2:=zh (And.intro ha2 hc2)
      clear ha2 hc2 q0 q1 q2 q3 q4 q5 q6 q7 q8 q9 q10
      have HX9:=zh (setRow_heap _ (w.heap.size+1) _ (rs0) _ _ HR2.out)
      go_wp2_with (refine wpList_store_row (o:=⟨none,.store 42 _ _,_,_,_,_⟩) rfl 42 _ _ rfl (w.heap.size+1) (rs0) rfl rfl 42 rs0 HR2.out (HTN.out.1 ▸ (by kernel_rfl:(Tryz.prog.info? 42).map (·.size)=some 10)) HTN.out.1.symm HTN.out.2 ?_)
      refine bodyPost_ret (results_cell rfl rfl (run_loadVar_row _ (w.heap.size+1) 42 42 _ (0,0) _ HX9.out Tryz.underlying42 rfl (HTN.out.1 ▸ (by kernel_rfl:(Tryz.prog.info? 42).map (·.size)=some 10)))) rfl ?_
      exact HW.out _ _ ⟨_,_,_,rfl,.inr (.inr (.inr (.inl ⟨.inr HOP.out,rfl,rfl⟩))),(HD2.out.1.row HR2.out _).more (Nat.le_add_right _ _),chg_row ((chg_bl HB.out).trans HD2.out.2 (fun x hx=>.inl (.inl hx))) (Nat.le_succ _) _,⟨fun hh=>by rw [HOP.out] at hh; omega,.inl rfl⟩⟩
     ·have e5:(r.op == 5)=false:=by rw [beq_eq_false_iff_ne]; exact h5
      by_cases h6:r.op=6
      ·have e6:(r.op == 6)=true:=by rw [h6]; rfl
       have HOP:=zh h6
       clear h1 h2 h3 h4 h5 h6
       go_wp2_with fail
       refine (expire_any H1.out r z).mono ?_
       rintro e w2 ⟨rfl,ha2,hc2⟩
       have HR2:Hid (Blk w2 (w.heap.size+1) 42 rs0):=zh (chg_blk hc2 HR.out (hgX))
       have HTN:Hid (Ten (expC m)):=zh (exp_ten m)
       have HD2:=zh (And.intro ha2 hc2)
       clear ha2 hc2 q0 q1 q2 q3 q4 q5 q6 q7 q8 q9 q10
       have HX9:=zh (setRow_heap _ (w.heap.size+1) _ (expC m) _ _ HR2.out)
       go_wp2_with (refine wpList_store_row (o:=⟨none,.store 42 _ _,_,_,_,_⟩) rfl 42 _ _ rfl (w.heap.size+1) (expC m) rfl rfl 42 rs0 HR2.out (HTN.out.1 ▸ (by kernel_rfl:(Tryz.prog.info? 42).map (·.size)=some 10)) HTN.out.1.symm HTN.out.2 ?_)
       refine bodyPost_ret (results_cell rfl rfl (run_loadVar_row _ (w.heap.size+1) 42 42 _ (0,0) _ HX9.out Tryz.underlying42 rfl (HTN.out.1 ▸ (by kernel_rfl:(Tryz.prog.info? 42).map (·.size)=some 10)))) rfl ?_
       exact HW.out _ _ ⟨_,_,_,rfl,.inr (.inr (.inr (.inr (.inl ⟨HOP.out,rfl,rfl⟩)))),(HD2.out.1.row HR2.out _).more (Nat.le_add_right _ _),chg_row ((chg_bl HB.out).trans HD2.out.2 (fun x hx=>.inl (.inl hx))) (Nat.le_succ _) _,⟨fun hh=>by rw [HOP.out] at hh; omega,.inl rfl⟩⟩
      ·have e6:(r.op == 6)=false:=by rw [beq_eq_false_iff_ne]; exact h6
       by_cases h7:r.op=7
       ·have e7:(r.op == 7)=true:=by rw [h7]; rfl
        have HOP:=zh h7
        clear h1 h2 h3 h4 h5 h6 h7
        go_wp2_with fail
        refine (search_any H1.out (by omega) r z).mono ?_
        rintro e w2 ⟨cs,rfl,hb2,hR2⟩
        have HR2:Hid (Blk w2 (w.heap.size+1) 42 rs0):=zh (HR.out.below hb2 HR.out.lt)
        have HTN:Hid (Ten (cs)):=zh (hR2.ten)
        have HD2:=zh (And.intro hb2 hR2)
        clear hb2 hR2 q0 q1 q2 q3 q4 q5 q6 q7 q8 q9 q10
        have HX9:=zh (setRow_heap _ (w.heap.size+1) _ (cs) _ _ HR2.out)
        go_wp2_with (refine wpList_store_row (o:=⟨none,.store 42 _ _,_,_,_,_⟩) rfl 42 _ _ rfl (w.heap.size+1) (cs) rfl rfl 42 rs0 HR2.out (HTN.out.1 ▸ (by kernel_rfl:(Tryz.prog.info? 42).map (·.size)=some 10)) HTN.out.1.symm HTN.out.2 ?_)
        refine bodyPost_ret (results_cell rfl rfl (run_loadVar_row _ (w.heap.size+1) 42 42 _ (0,0) _ HX9.out Tryz.underlying42 rfl (HTN.out.1 ▸ (by kernel_rfl:(Tryz.prog.info? 42).map (·.size)=some 10)))) rfl ?_
        exact HW.out _ _ ⟨v,m,_,rfl,.inr (.inr (.inr (.inr (.inr (.inl ⟨HOP.out,rfl,HD2.out.2.row hs1 HR2.out⟩))))),(((H1.out.below HD2.out.1).row HR2.out _).more (Nat.le_add_right _ _)),chg_row (chg_bl (HB.out.trans (HD2.out.1.mono HB.out.size))) (Nat.le_succ _) _,⟨fun _=>⟨below_setRow (HB.out.trans (HD2.out.1.mono HB.out.size)) (Nat.le_succ _) _,rfl⟩,.inl rfl⟩⟩
       ·have e7:(r.op == 7)=false:=by rw [beq_eq_false_iff_ne]; exact h7
        by_cases h8:r.op=8
        ·have e8:(r.op == 8)=true:=by rw [h8]; rfl
         have HOP:=zh h8
         clear h1 h2 h3 h4 h5 h6 h7 h8
         go_wp2_with fail
         refine (hist_any H1.out (by omega) r z HRQ.out.wd).mono ?_
         rintro e w2 ⟨cs,rfl,hb2,hR2⟩
         have HR2:Hid (Blk w2 (w.heap.size+1) 42 rs0):=zh (HR.out.below hb2 HR.out.lt)
         have HTN:Hid (Ten (cs)):=zh (hR2.ten)
         have HD2:=zh (And.intro hb2 hR2)
         clear hb2 hR2 q0 q1 q2 q3 q4 q5 q6 q7 q8 q9 q10
         have HX9:=zh (setRow_heap _ (w.heap.size+1) _ (cs) _ _ HR2.out)
         go_wp2_with (refine wpList_store_row (o:=⟨none,.store 42 _ _,_,_,_,_⟩) rfl 42 _ _ rfl (w.heap.size+1) (cs) rfl rfl 42 rs0 HR2.out (HTN.out.1 ▸ (by kernel_rfl:(Tryz.prog.info? 42).map (·.size)=some 10)) HTN.out.1.symm HTN.out.2 ?_)
         refine bodyPost_ret (results_cell rfl rfl (run_loadVar_row _ (w.heap.size+1) 42 42 _ (0,0) _ HX9.out Tryz.underlying42 rfl (HTN.out.1 ▸ (by kernel_rfl:(Tryz.prog.info? 42).map (·.size)=some 10)))) rfl ?_
         exact HW.out _ _ ⟨v,m,_,rfl,.inr (.inr (.inr (.inr (.inr (.inr (.inl ⟨HOP.out,rfl,HD2.out.2.row hs1 HR2.out⟩)))))),(((H1.out.below HD2.out.1).row HR2.out _).more (Nat.le_add_right _ _)),chg_row (chg_bl (HB.out.trans (HD2.out.1.mono HB.out.size))) (Nat.le_succ _) _,⟨fun _=>⟨below_setRow (HB.out.trans (HD2.out.1.mono HB.out.size)) (Nat.le_succ _) _,rfl⟩,.inl rfl⟩⟩
        ·have e8:(r.op == 8)=false:=by rw [beq_eq_false_iff_ne]; exact h8
         by_cases h9:r.op=9
         ·have e9:(r.op == 9)=true:=by rw [h9]; rfl
          have HOP:=zh h9
          clear h1 h2 h3 h4 h5 h6 h7 h8 h9
          go_wp2_with fail
          refine (open_any H1.out r z).mono ?_
          rintro e w2 ⟨cs,rfl,hb2,hR2⟩
          have HR2:Hid (Blk w2 (w.heap.size+1) 42 rs0):=zh (HR.out.below hb2 HR.out.lt)
          have HTN:Hid (Ten (cs)):=zh (hR2.ten)
          have HD2:=zh (And.intro hb2 hR2)
          clear hb2 hR2 q0 q1 q2 q3 q4 q5 q6 q7 q8 q9 q10
          have HX9:=zh (setRow_heap _ (w.heap.size+1) _ (cs) _ _ HR2.out)
          go_wp2_with (refine wpList_store_row (o:=⟨none,.store 42 _ _,_,_,_,_⟩) rfl 42 _ _ rfl (w.heap.size+1) (cs) rfl rfl 42 rs0 HR2.out (HTN.out.1 ▸ (by kernel_rfl:(Tryz.prog.info? 42).map (·.size)=some 10)) HTN.out.1.symm HTN.out.2 ?_)
          refine bodyPost_ret (results_cell rfl rfl (run_loadVar_row _ (w.heap.size+1) 42 42 _ (0,0) _ HX9.out Tryz.underlying42 rfl (HTN.out.1 ▸ (by kernel_rfl:(Tryz.prog.info? 42).map (·.size)=some 10)))) rfl ?_
          exact HW.out _ _ ⟨v,m,_,rfl,.inr (.inr (.inr (.inr (.inr (.inr (.inr (.inl ⟨HOP.out,rfl,HD2.out.2.row hs1 HR2.out⟩))))))),(((H1.out.below HD2.out.1).row HR2.out _).more (Nat.le_add_right _ _)),chg_row (chg_bl (HB.out.trans (HD2.out.1.mono HB.out.size))) (Nat.le_succ _) _,⟨fun _=>⟨below_setRow (HB.out.trans (HD2.out.1.mono HB.out.size)) (Nat.le_succ _) _,rfl⟩,.inl rfl⟩⟩
         ·have e9:(r.op == 9)=false:=by rw [beq_eq_false_iff_ne]; exact h9
          by_cases h10:r.op=10
          ·have e10:(r.op == 10)=true:=by rw [h10]; rfl
           have HOP:=zh h10
           clear h1 h2 h3 h4 h5 h6 h7 h8 h9 h10
           go_wp2_with fail
           refine (tail_any H1.out (by omega) r z HRQ.out.cur HRQ.out.cn).mono ?_
           rintro e w2 ⟨cs,rfl,hb2,hR2⟩
           have HR2:Hid (Blk w2 (w.heap.size+1) 42 rs0):=zh (HR.out.below hb2 HR.out.lt)
           have HTN:Hid (Ten (cs)):=zh (hR2.ten)
           have HD2:=zh (And.intro hb2 hR2)
           clear hb2 hR2 q0 q1 q2 q3 q4 q5 q6 q7 q8 q9 q10
           have HX9:=zh (setRow_heap _ (w.heap.size+1) _ (cs) _ _ HR2.out)
           go_wp2_with (refine wpList_store_row (o:=⟨none,.store 42 _ _,_,_,_,_⟩) rfl 42 _ _ rfl (w.heap.size+1) (cs) rfl rfl 42 rs0 HR2.out (HTN.out.1 ▸ (by kernel_rfl:(Tryz.prog.info? 42).map (·.size)=some 10)) HTN.out.1.symm HTN.out.2 ?_)
           refine bodyPost_ret (results_cell rfl rfl (run_loadVar_row _ (w.heap.size+1) 42 42 _ (0,0) _ HX9.out Tryz.underlying42 rfl (HTN.out.1 ▸ (by kernel_rfl:(Tryz.prog.info? 42).map (·.size)=some 10)))) rfl ?_
           exact HW.out _ _ ⟨v,m,_,rfl,.inr (.inr (.inr (.inr (.inr (.inr (.inr (.inr (.inl ⟨HOP.out,rfl,HD2.out.2.row hs1 HR2.out⟩)))))))),(((H1.out.below HD2.out.1).row HR2.out _).more (Nat.le_add_right _ _)),chg_row (chg_bl (HB.out.trans (HD2.out.1.mono HB.out.size))) (Nat.le_succ _) _,⟨fun _=>⟨below_setRow (HB.out.trans (HD2.out.1.mono HB.out.size)) (Nat.le_succ _) _,rfl⟩,.inl rfl⟩⟩
          ·have e10:(r.op == 10)=false:=by rw [beq_eq_false_iff_ne]; exact h10
           by_cases h11:r.op=11
           ·have e11:(r.op == 11)=true:=by rw [h11]; rfl
            have HOP:=zh h11
            clear h1 h2 h3 h4 h5 h6 h7 h8 h9 h10 h11
            go_wp2_with fail
            refine (stats_any H1.out (by omega) r z).mono ?_
            rintro e w2 ⟨rfl,hb2⟩
            have HR2:Hid (Blk w2 (w.heap.size+1) 42 rs0):=zh (HR.out.below hb2 HR.out.lt)
            have HTN:Hid (Ten (statC m)):=zh (ten ..)
            have HD2:=zh (And.intro hb2 trivial)
            clear hb2 q0 q1 q2 q3 q4 q5 q6 q7 q8 q9 q10
            have HX9:=zh (setRow_heap _ (w.heap.size+1) _ (statC m) _ _ HR2.out)
            go_wp2_with (refine wpList_store_row (o:=⟨none,.store 42 _ _,_,_,_,_⟩) rfl 42 _ _ rfl (w.heap.size+1) (statC m) rfl rfl 42 rs0 HR2.out (HTN.out.1 ▸ (by kernel_rfl:(Tryz.prog.info? 42).map (·.size)=some 10)) HTN.out.1.symm HTN.out.2 ?_)
            refine bodyPost_ret (results_cell rfl rfl (run_loadVar_row _ (w.heap.size+1) 42 42 _ (0,0) _ HX9.out Tryz.underlying42 rfl (HTN.out.1 ▸ (by kernel_rfl:(Tryz.prog.info? 42).map (·.size)=some 10)))) rfl ?_
            exact HW.out _ _ ⟨v,m,_,rfl,.inr (.inr (.inr (.inr (.inr (.inr (.inr (.inr (.inr (.inl ⟨HOP.out,rfl,rfl⟩))))))))),(((H1.out.below HD2.out.1).row HR2.out _).more (Nat.le_add_right _ _)),chg_row (chg_bl (HB.out.trans (HD2.out.1.mono HB.out.size))) (Nat.le_succ _) _,⟨fun _=>⟨below_setRow (HB.out.trans (HD2.out.1.mono HB.out.size)) (Nat.le_succ _) _,rfl⟩,.inl rfl⟩⟩
           ·have e11:(r.op == 11)=false:=by rw [beq_eq_false_iff_ne]; exact h11
            have HNO:Hid (¬ (1≤r.op∧r.op≤11)):=zh (by omega)
            clear h1 h2 h3 h4 h5 h6 h7 h8 h9 h10 h11
            go_wp2_with fail
            refine (fails_any 272 w1).mono ?_
            rintro e w2 ⟨rfl,hb2⟩
            have HR2:=zh (HR.out.below hb2 HR.out.lt)
            have HD2:=zh (And.intro hb2 trivial)
            clear hb2 q0 q1 q2 q3 q4 q5 q6 q7 q8 q9 q10
            have HX9:=zh (setRow_heap _ (w.heap.size+1) _ (rsC 272 0 0 nil nil nil 0 0 0 0) _ _ HR2.out)
            go_wp2_with (refine wpList_store_row (o:=⟨none,.store 42 _ _,_,_,_,_⟩) rfl 42 _ _ rfl (w.heap.size+1) (rsC 272 0 0 nil nil nil 0 0 0 0) rfl rfl 42 rs0 HR2.out (by kernel_rfl) rfl (by simp [rsC,Value.oneCell']) ?_)
            refine bodyPost_ret (results_cell rfl rfl (run_loadVar_row _ (w.heap.size+1) 42 42 _ (0,0) _ HX9.out Tryz.underlying42 rfl (by kernel_rfl))) rfl ?_
            exact HW.out _ _ ⟨v,m,_,rfl,.inr (.inr (.inr (.inr (.inr (.inr (.inr (.inr (.inr (.inr (⟨HNO.out,rfl,rfl⟩)))))))))),(((H1.out.below HD2.out.1).row HR2.out _).more (Nat.le_add_right _ _)),chg_row (chg_bl (HB.out.trans (HD2.out.1.mono HB.out.size))) (Nat.le_succ _) _,⟨fun _=>⟨below_setRow (HB.out.trans (HD2.out.1.mono HB.out.size)) (Nat.le_succ _) _,rfl⟩,.inl rfl⟩⟩
end
end Go.Proofs.YtmomjpolkkbhnaaGreat.Md


