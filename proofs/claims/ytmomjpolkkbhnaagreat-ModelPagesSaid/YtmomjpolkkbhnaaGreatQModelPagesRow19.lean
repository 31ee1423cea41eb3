/- token.Phrase: the walk. -/
import Derived.Deep.DeepCutAuto
import Derived.Outline
import Derived.Laws.StructEq
import Derived.RegionTactic
import Derived.ChangeAlike
import Derived.BigRegion
import Derived.Test.YtmomjpolkkbhnaaGreatQModelPagesRow10
import Derived.Test.YtmomjpolkkbhnaaGreatQModelPagesRow8
import Derived.Test.YtmomjpolkkbhnaaGreatQModelPagesRow11
import Derived.Test.YtmomjpolkkbhnaaGreatQModelPagesRow23
import Derived.Test.YtmomjpolkkbhnaaGreatQModelPagesRow1
import Derived.Test.YtmomjpolkkbhnaaGreatQModelPagesRow0
set_option linter.unusedSimpArgs false
set_option linter.unusedVariables false
set_option maxRecDepth 20000
section
namespace Go.Proofs.YtmomjpolkkbhnaaGreat.Qy
open Go.RowKit Ut Tk
def nv (l:List Nat):List Value:=l.map fun n:Nat=>Value.int .i64 (n:Int)
theorem nv_snoc (l:List Nat) (n:Nat):nv (l ++ [n])=nv l ++ [.int .i64 (n:Int)]:=by simp [nv]
structure Ints (w wr:World) (v:Value) (l:List Nat):Prop where
 own:wr.ownsRow w.heap.size 3 1 v l.length (nv l)
 bel:Below w.heap.size w wr
theorem Ints.below {w wr w2:World} {v:Value} {l:List Nat} (h:Ints w wr v l) (hb:Below wr.heap.size wr w2):Ints w w2 v l :=
 ⟨h.own.kept (grow_of_below hb none) (by cases hv:v.ownBlock <;> simp),h.bel.trans (hb.mono h.bel.size)⟩
theorem Ints.put {w wr w2:World} {v v':Value} {l:List Nat} {n:Nat} (h:Ints w wr v l) (hp:w2.ownsRow w.heap.size 3 1 v' (l.length+1) (nv l ++ [.int .i64 (n:Int)])) (hg:wr.grownBy w2 v.ownBlock):Ints w w2 v' (l ++ [n]):=by
 refine ⟨?_,h.bel.grown hg h.bel.size (fun k hk=>(h.own.lt k hk).1)⟩
 rw [nv_snoc,List.length_append]
 exact hp
theorem Ints.start (w:World):Ints w w (.slice none 0 0) []:=⟨World.ownsRow_nil _ _ _ _,Below.refl _ _⟩
def IntPost (w:World) (l:List Nat) (e:Ending) (w':World):Prop:=∃ v,e=.returned v∧Ints w w' v l
set_option maxHeartbeats 400000 in
theorem behind_any (k j:Nat) (h:k+j<4611686018427387904) (w:World):Calls Tryz.prog 159 #[.int .i64 (k:Int),.int .i64 ((k+j:Nat):Int),.int .i64 (j:Int)] w fun e w'=>e=.returned (.bool true)∧w=w':=by
 have h1:(k:Int)≤((k+j:Nat):Int):=by omega
 have h0:(0:Int)≤(k:Int):=by omega
 have h2:(0:Int)≤(j:Int):=by omega
 have h3:((k+j:Nat):Int) - (k:Int)=(j:Int):=by omega
 have h4:((k+j:Nat):Int)<4611686018427387904:=by omega
 have h5:(j:Int)<4611686018427387904:=by omega
 have h6:(k:Int)<4611686018427387904:=by omega
 generalize ((k+j:Nat):Int)=a at *
 generalize (k:Int)=b at *
 generalize (j:Int)=c at *
 go_enter Tryz.func159,Tryz.ntmps159
 go_wp2
 go_ret
 exact ⟨by simp,rfl⟩
set_option maxHeartbeats 1600000 in
theorem phrase_any (TA:Option Addr) (n tc:Nat) (T:List (List UInt8)) (WA:Option Addr) (m wc:Nat) (ws:List ByteArray) (w:World) (hT:Reads w w.heap.size 2 TA n (tokC (placed T))) (hn:T.length=n) (hn2:n≤1048576)
  (hW:Reads w w.heap.size 1 WA m (ws.map Value.string)) (hm:ws.length=m) (hm2:m≤8796093021952) :
  Calls Tryz.prog 137 #[.slice TA n tc,.slice WA m wc] w (IntPost w (phr T ws)):=by
 obtain ⟨i0,hi0,hz0,hz1,hz2⟩:=info_parts int_info2
 have HT:=zh hT
 have HW:=zh hW
 clear hT hW
 by_cases h0:m=0
 ·have hws:ws=[]:=List.length_eq_zero_iff.1 (by omega)
  have Fin:Hid (phr T ws=[]):=zh (by unfold phr; rw [if_pos hws])
  have h0':((m:Int) == 0)=true:=by rw [beq_iff_eq]; omega
  clear h0 hws hm
  go_enter Tryz.func137,Tryz.ntmps137
  go_wp2_with fail
  go_step3
  go_wp2
  rw [Exit.noGoto_ret]
  go_ret
  exact ⟨_,rfl,by rw [Fin.out]; exact Ints.start w⟩
 ·have hws:ws≠[]:=fun e=>h0 (by rw [← hm,e]; rfl)
  have Fin:Hid (phr T ws=phrTo T ws n):=zh (by unfold phr; rw [if_neg hws,hn])
  have h0':((m:Int) == 0)=false:=by rw [beq_eq_false_iff_ne]; omega
  have Hn:=zh hn
  have Hm:=zh hm
  clear h0 hws hm hn
  go_enter Tryz.func137,Tryz.ntmps137
  go_wp2_with fail
  go_step3
  go_wp2_with fail
  go_step3
  go_wp2_with fail
  go_loopw [5,16] (fun v i wr=>∃ k:Nat,k≤n∧i=.int .i64 k∧Ints w wr v (phrTo T ws k)) (fun _ i _=>n - (intOf i).toNat)
  case atStart=>exact ⟨0,Nat.zero_le _,rfl,Ints.start w⟩
  case round =>
   obtain ⟨k,hk,rfl,hI⟩:=hrel
   by_cases hlt:k<n
   ·obtain ⟨tb,tq,rfl,htb,hc1,hc2⟩:=toks_at HT.out Hn.out (k:=k) (by rw [Hn.out]; exact hlt)
    have hd1:=(hI.bel.cell (p:=⟨tb,tq+k * 2,none⟩) htb).trans hc1
    have hd2:=(hI.bel.cell (p:=⟨tb,tq+k * 2+1,none⟩) htb).trans hc2
    have HI:=zh hI
    have hz:=hI.bel.size
    have hpl:=phrTo_len T ws k
    clear hI hc1 hc2
    by_cases hs:n - k<m
    ·have hs':(n:Int) - (k:Int)<(m:Int):=by omega
     have Fin2:Hid (phrTo T ws n=phrTo T ws k):=zh (phrTo_short T ws k (by rw [Hn.out,Hm.out]; exact hs) n (by omega))
     have HI2:=zh (HI.out.below ((Below.refl _ _).alloc (zG _) (.cells #[.string (str (T[k]'(by rw [Hn.out]; exact hlt))),.int .i64 (k:Int)] 206)))
     generalize (str (T[k]'(by rw [Hn.out]; exact hlt)))=tk at *
     clear hs
     go_wp2
     rw [Exit.noGoto_ret]
     go_ret
     exact ⟨_,rfl,by rw [Fin.out,Fin2.out]; exact HI2.out⟩
    ·have hs':(m:Int)≤(n:Int) - (k:Int):=by omega
     have HB7:=zh ((Blk.new wr 206 #[.string (str (T[k]'(by rw [Hn.out]; exact hlt))),.int .i64 (k:Int)]))
     generalize (str (T[k]'(by rw [Hn.out]; exact hlt)))=tk at *
     obtain ⟨wo,rfl⟩:∃ wo:World,wo=wr:=⟨_,rfl⟩
     have hmn:m≤n - k:=by omega
     clear hs
     go_wp2_with fail
     go_loopw [30] (fun i wq=>∃ j:Nat,j≤m∧i=.int .i64 j∧standsTo T ws k j=true∧Below (wo.alloc (.cells #[.string tk,.int .i64 (k:Int)] 206)).heap.size (wo.alloc (.cells #[.string tk,.int .i64 (k:Int)] 206)) wq) (fun i _=>m - (intOf i).toNat)
     case atStart=>exact ⟨0,Nat.zero_le _,rfl,standsTo_zero _ _ _,Below.refl _ _⟩
     case round =>
      obtain ⟨j,hj,rfl,hst,hbq⟩:=hrel
      have HIq:=zh ((HI.out.below ((Below.refl _ _).alloc (zG _) (.cells #[.string tk,.int .i64 (k:Int)] 206))).below hbq)
      have h7:=HB7.out.below hbq (by simp)
      have h7a:=h7.cell 0
      have h7b:=h7.cell 1
      simp at h7a h7b
      have Hbq:=zh hbq
      have Hst:=zh hst
      have hzq:=hbq.size
      simp at hzq
      clear h7 hbq hst
      by_cases hjm:j<m
      ·obtain ⟨xb,xo,e1,hxb,hx1,hx2⟩:=toks_at HT.out Hn.out (k:=k+j) (by rw [Hn.out]; omega)
       injection e1 with e1
       injection e1 with e1 e2
       subst e1 e2
       obtain ⟨ab,ao,hkl,rfl,hab,hcw⟩:=HW.out.at_map hjm
       have hbw:=HIq.out.bel
       have hy1:=(hbw.cell (p:=⟨tb,tq+(k+j) * 2,none⟩) htb).trans hx1
       have hy2:=(hbw.cell (p:=⟨tb,tq+(k+j) * 2+1,none⟩) htb).trans hx2
       have hyw:=(hbw.cell (p:=⟨ab,ao+j,none⟩) hab).trans hcw
       have hss:=standsTo_succ T ws k j (by rw [Hn.out]; omega) (by rw [Hm.out]; omega)
       have hbe:=str_beq (T[k+j]'(by rw [Hn.out]; omega)) ws[j]
       rw [Hst.out,Bool.true_and,← hbe] at hss
       have Hss:=zh hss
       have hi0:(0:Int)≤(k:Int)+(j:Int):=by omega
       have hi1:(k:Int)+(j:Int)<(n:Int):=by omega
       have hi2:((k:Int)+(j:Int)).toNat=k+j:=by omega
       have Hno:Hid (standsTo T ws k (j+1)=false→phrTo T ws (k+1)=phrTo T ws k):=zh (fun e=>by
        rw [phrTo_succ,standsTo_no T ws k (j+1) (by rw [Hm.out]; omega) e]; simp)
       clear hbw hx1 hx2 hcw hss hbe
       generalize (str (T[k+j]'(by rw [Hn.out]; omega)))=x at *
       generalize ws[j]=y at *
       by_cases hxy:(x.toList == y.toList)=true
       ·have hxy':(x.toList != y.toList)=false:=by rw [bne,hxy]; rfl
        have Hs2:Hid (standsTo T ws k (j+1)=true):=zh (by rw [Hss.out,hxy])
        have c1:=fun wx=>behind_any k j (by omega) wx
        have h7c:=fun o=>(World.cell?_alloc_lt wr o ⟨wo.heap.size,1,none⟩ (by show wo.heap.size < _; omega)).trans h7b
        have hbx:=Hbq.out.alloc Hbq.out.size (.cells #[.string x,.int .i64 ((k+j:Nat):Int)] 206)
        have Hbx:=zh hbx
        have C1:=zh c1
        clear hbx c1
        have e1:((k+j:Nat):Int)=(k:Int)+(j:Int):=by omega
        rw [e1] at C1
        have E1:=zh e1
        clear e1
        go_wp2_with (go_at_call 159; refine (C1.out _).mono ?_; rintro e w' ⟨rfl,rfl⟩)
        go_roundw
        case rel=>exact ⟨j+1,by omega,by go_num,Hs2.out,Hbx.out⟩
        case measure=>simp [intOf]; omega
       ·have hxy':(x.toList != y.toList)=true:=by rw [bne,Bool.eq_false_iff.2 hxy]; rfl
        have Hs2:=zh (Hno.out (by rw [Hss.out]; exact Bool.eq_false_iff.2 hxy))
        have hxf:(x.toList == y.toList)=false:=Bool.eq_false_iff.2 hxy
        have HIx:=zh (HIq.out.below ((Below.refl _ _).alloc (zG _) (.cells #[.string x,.int .i64 ((k+j:Nat):Int)] 206)))
        clear hxy
        go_wp2
        go_roundw
        case rel=>exact ⟨k+1,by omega,by go_num,by rw [Hs2.out]; exact HIx.out⟩
        case measure=>simp [intOf]; omega
      ·obtain rfl:j=m:=by omega
       have hst2:=Hst.out
       have hmm:=Hm.out
       subst hmm
       rw [standsTo_all] at hst2
       have Hph:Hid (phrTo T ws (k+1)=phrTo T ws k ++ [k]):=zh (by rw [phrTo_succ,hst2]; rfl)
       have hown:=HIq.out.own
       have hbsz:=HIq.out.bel.size
       clear hst2
       generalize phrTo T ws k=P at *
       go_wp2_with (at_builtin; refine wpList_append_own _ rfl _ _ 27 rfl w.heap.size 3 i0 _ 1 8 Tryz.underlying27 hi0 hz0 hz1 hz2 rfl (by decide) _ _ _ rfl (hown.alloc _) ⟨wr.heap.size,0,none⟩ 1 1 [.int .i64 (k:Int)] rfl rfl ?d1 ?d2 ?d3 ?d4 ?d5 ?_)
       case d2=>first | rfl | (intro u hu; simp at hu; subst hu; rfl)
       case d3=>unfold maxLen; omega
       case d4=>omega
       case d5=>first | omega | (simp; omega)
       intro v' w5 hown5 hg5 _
       have HI5:=zh ((HIq.out.below ((Below.refl _ _).alloc (zG _) _)).put hown5 hg5)
       clear hown5 hg5 hown
       go_wp2
       go_roundw
       case rel=>exact ⟨k+1,by omega,by go_num,by rw [Hph.out]; exact HI5.out⟩
       case measure=>simp [intOf]; omega
   ·obtain rfl:k=n:=by omega
    have HI:=zh hI
    clear hI
    go_wp2
    rw [Exit.noGoto_ret]
    go_ret
    exact ⟨_,rfl,by rw [Fin.out]; exact HI.out⟩
end Go.Proofs.YtmomjpolkkbhnaaGreat.Qy
end

section
namespace Go.Proofs.YtmomjpolkkbhnaaGreat.Tk
open Go.RowKit Ut
theorem sv_get (ws:List (List UInt8)) (k:Nat) (h:k<ws.length):(sv ws)[k]?=some (.string (str ws[k])):=by simp [sv,List.getElem?_eq_getElem h]
def ct (n:Nat) (s:ByteArray):ByteArray:=s.extract 0 (min s.size n)
end Go.Proofs.YtmomjpolkkbhnaaGreat.Tk
end

section
namespace Go.Proofs.YtmomjpolkkbhnaaGreat.Qp
open Go.RowKit Ut Tk Qy
def qtV (a:Nat) (n:Nat):Value:=if n=0 then .tuple #[.int .i64 0,.bool false] else .tuple #[.int .i64 ((a+n:Nat):Int),.bool true]
theorem qtV_no (a:Nat):qtV a 0=.tuple #[.int .i64 0,.bool false]:=rfl
theorem qtV_yes (a n:Nat) (h:n≠0):qtV a n=.tuple #[.int .i64 ((a+n:Nat):Int),.bool true]:=if_neg h
theorem tup_int {k:IntKind} {a b:Int} {c:Bool} (h:a=b):Ending.returned (.tuple #[.int k a,.bool c])=.returned (.tuple #[.int k b,.bool c]):=by rw [h]
theorem quotedN_drop (l:P) (a:Nat):quotedN (l.drop a)=if atC 34 (l.drop (a+1))<(l.drop (a+1)).length then atC 34 (l.drop (a+1))+2 else 0:=by
 unfold quotedN
 rw [List.tail_drop]; rfl
set_option maxHeartbeats 800000 in
theorem quoted_ref (s:ByteArray) (a:Nat) (w:World) (ha:a<s.size) (hs:s.size≤1048576):Calls Tryz.prog 77 #[.string s,.int .i64 (a:Int)] w fun e w'=>e=.returned (qtV a (quotedN (s.data.toList.drop a)))∧w=w':=by
 have hq:Hid (quotedN (s.data.toList.drop a)=if atC 34 (s.data.toList.drop (a+1))<(s.data.toList.drop (a+1)).length then atC 34 (s.data.toList.drop (a+1))+2 else 0):=zh (quotedN_drop _ _)
 have hl:Hid ((s.data.toList.drop (a+1)).length=s.size - (a+1)):=zh (by rw [List.length_drop,bsize])
 have Hend:=zh (findIdx_of (· == 34) (s.data.toList.drop (a+1)))
 have ha0:(0:Int)≤(a:Int):=by omega
 go_enter Tryz.func77,Tryz.ntmps77
 go_wp2_with fail
 go_loopw [6] (fun i wr=>∃ j:Nat,a+1+j≤s.size∧i=.int .i64 ((a+1+j:Nat):Int)∧w=wr∧Hid (∀ x∈(s.data.toList.drop (a+1)).take j,(x == 34)=false)) (fun i _=>s.size - (intOf i).toNat)
 case atStart=>exact ⟨0,by omega,by go_num,rfl,zh (fun x hx=>by simp at hx)⟩
 case round =>
  obtain ⟨j,hj,rfl,rfl,hal⟩:=hrel
  have g0:(0:Int)≤((a+1+j:Nat):Int):=by omega
  by_cases hlt:a+1+j<s.size
  ·have hg:(s.data.toList.drop (a+1))[j]?=some s[a+1+j]:=by rw [List.getElem?_drop]; exact get_of s _ hlt
   have u0:=u8_eq s[a+1+j] 34
   rw [show (UInt8.toNat 34:Int)=34 from rfl] at u0
   have hjl:j<(s.data.toList.drop (a+1)).length:=by rw [hl.out]; omega
   have hge:(s.data.toList.drop (a+1))[j]=s[a+1+j]:=by
    have:=List.getElem?_eq_getElem hjl
    rw [hg] at this
    injection this with this
    exact this.symm
   by_cases q:s[a+1+j]=34
   ·have t0:((s[a+1+j].toNat:Int) == 34)=true:=by rw [u0]; exact beq_iff_eq.2 q
    have Fin:Hid (quotedN (s.data.toList.drop a)=j+2):=zh (by
     have e:atC 34 (s.data.toList.drop (a+1))=j:=Hend.out j hal.out (by omega) (fun h=>by rw [hge,q]; rfl)
     rw [hq.out,e,if_pos hjl])
    clear hg u0 hjl hge q hal Hend hq hl
    go_wp2_with fail
    go_ret2
    exact ⟨by rw [Fin.out,qtV_yes _ _ (by omega)]; exact tup_int (by omega),rfl⟩
   ·have t0:((s[a+1+j].toNat:Int) == 34)=false:=by rw [u0]; exact beq_eq_false_iff_ne.2 q
    have Hnx:Hid (∀ x∈(s.data.toList.drop (a+1)).take (j+1),(x == 34)=false):=zh (fun x hx=>by
     rw [List.take_succ_eq_append_getElem hjl,List.mem_append] at hx
     rcases hx with hx | hx
     ·exact hal.out x hx
     ·rw [List.mem_singleton] at hx; rw [hx,hge]; exact beq_eq_false_iff_ne.2 q)
    clear hg u0 hjl hge q hal Hend hq hl
    go_wp2_with fail
    go_roundw
    case rel=>exact ⟨j+1,by omega,by go_num,by first | rfl | trivial,Hnx⟩
    case measure=>simp [intOf]; omega
  ·have Fin:Hid (quotedN (s.data.toList.drop a)=0):=zh (by
    have e:atC 34 (s.data.toList.drop (a+1))=j:=Hend.out j hal.out (by rw [hl.out]; omega) (fun h=>absurd h (by rw [hl.out]; omega))
    rw [hq.out,e,if_neg (by rw [hl.out]; omega)])
   clear hal Hend hq hl
   go_wp2_with fail
   go_ret2
   exact ⟨by rw [Fin.out,qtV_no]; rfl,rfl⟩
theorem plain_ref (c:UInt8) (w:World):Calls Tryz.prog 78 #[.int .u8 (c.toNat:Int)] w fun e w'=>e=.returned (.bool (!ends c))∧w=w':=by
 have u0:=u8_eq c 32
 have u1:=u8_eq c 9
 have u2:=u8_eq c 40
 have u3:=u8_eq c 41
 have u4:=u8_eq c 34
 simp only [show (UInt8.toNat 34:Int)=34 from rfl,show (UInt8.toNat 41:Int)=41 from rfl,show (UInt8.toNat 40:Int)=40 from rfl,show (UInt8.toNat 32:Int)=32 from rfl,show (UInt8.toNat 9:Int)=9 from rfl] at u0 u1 u2 u3 u4
 have he:ends c=(((c.toNat:Int) == 32) || ((c.toNat:Int) == 9) || ((c.toNat:Int) == 40) || ((c.toNat:Int) == 41) || ((c.toNat:Int) == 34)):=by
  rw [u0,u1,u2,u3,u4]; rfl
 rw [he]
 clear u0 u1 u2 u3 u4 he
 generalize (c.toNat:Int)=z
 by_cases h0:z=32
 ·subst h0
  go_enter Tryz.func78,Tryz.ntmps78
  go_wp2
  go_ret
  exact ⟨rfl,rfl⟩
 by_cases h1:z=9
 ·subst h1
  go_enter Tryz.func78,Tryz.ntmps78
  go_wp2
  go_ret
  exact ⟨rfl,rfl⟩
 by_cases h2:z=40
 ·subst h2
  go_enter Tryz.func78,Tryz.ntmps78
  go_wp2
  go_ret
  exact ⟨rfl,rfl⟩
 by_cases h3:z=41
 ·subst h3
  go_enter Tryz.func78,Tryz.ntmps78
  go_wp2
  go_ret
  exact ⟨rfl,rfl⟩
 by_cases h4:z=34
 ·subst h4
  go_enter Tryz.func78,Tryz.ntmps78
  go_wp2
  go_ret
  exact ⟨rfl,rfl⟩
 have t0:(z != 32)=true:=by simpa using h0
 have t1:(z != 9)=true:=by simpa using h1
 have t2:(z != 40)=true:=by simpa using h2
 have t3:(z != 41)=true:=by simpa using h3
 have t4:(z != 34)=true:=by simpa using h4
 go_enter Tryz.func78,Tryz.ntmps78
 go_wp2
 go_ret
 exact ⟨by simp [h0,h1,h2,h3,h4],rfl⟩
end Go.Proofs.YtmomjpolkkbhnaaGreat.Qp
end

section
namespace Go.Proofs.YtmomjpolkkbhnaaGreat.Mx
open Go.RowKit Ut Tk Qy Ev Qp
abbrev Bt:=Int × List Evn
def BtV (w:World) (B:Nat) (b:Bt) (v:List Value):Prop:=∃ A n c,v=[.int .i64 b.1,.slice A n c]∧EvsAt w B A n c b.2
theorem BtV.len {w:World} {B:Nat} {b:Bt} {v:List Value} (h:BtV w B b v):v.length=2:=by obtain ⟨A,n,c,rfl,_⟩:=h; rfl
theorem BtV.keep {w w':World} {B:Nat} {b:Bt} {v:List Value} (h:BtV w B b v) (hk:∀ b o,b<B→w'.cell? ⟨b,o,none⟩=w.cell? ⟨b,o,none⟩):BtV w' B b v:=by
 obtain ⟨A,n,c,e,g⟩:=h
 exact ⟨A,n,c,e,g.keep hk⟩
theorem BtV.more {w:World} {B B':Nat} {b:Bt} {v:List Value} (h:BtV w B b v) (hB:B≤B'):BtV w B' b v:=by
 obtain ⟨A,n,c,e,g⟩:=h
 exact ⟨A,n,c,e,g.more hB⟩
structure BtsAt (w:World) (R:Nat→Prop) (B:Nat) (A:Option Addr) (n c:Nat) (l:List Bt):Prop where
 ln:l.length=n
 cap:n≤c
 ex:∃ vss:List (List Value),vss.length=n∧ReadsS w R 2 A n vss.flatten∧∀ i (h:i<l.length) (h':i<vss.length),BtV w B l[i] vss[i]
theorem BtsAt.keep {w w':World} {R:Nat→Prop} {B n c:Nat} {A:Option Addr} {l:List Bt} (h:BtsAt w R B A n c l) (hr:∀ b o,R b→w'.cell? ⟨b,o,none⟩=w.cell? ⟨b,o,none⟩) (hk:∀ b o,b<B→w'.cell? ⟨b,o,none⟩=w.cell? ⟨b,o,none⟩):BtsAt w' R B A n c l:=by
 obtain ⟨vss,h1,h2,h3⟩:=h.ex
 exact ⟨h.ln,h.cap,vss,h1,h2.keep hr,fun i a b=>(h3 i a b).keep hk⟩
theorem BtsAt.at_ {w:World} {R:Nat→Prop} {B n c:Nat} {A:Option Addr} {l:List Bt} (h:BtsAt w R B A n c l) {i:Nat} (hi:i<l.length) :
  ∃ b o E m k,A=some ⟨b,o,none⟩∧R b∧w.cell? ⟨b,o+i * 2,none⟩=some (.int .i64 l[i].1)∧w.cell? ⟨b,o+i * 2+1,none⟩=some (.slice E m k)∧EvsAt w B E m k l[i].2:=by
 obtain ⟨vss,h1,h2,h3⟩:=h.ex
 have hl:=h.ln
 have hi':i<vss.length:=by omega
 have h4:∀ v∈vss,v.length=2:=fun v hv=>by
  obtain ⟨j,hj,rfl⟩:=List.mem_iff_getElem.1 hv
  exact (h3 j (by omega) hj).len
 obtain ⟨E,m,k,e,g⟩:=h3 i hi hi'
 obtain ⟨b,o,eA,hb,hc⟩:=h2.2 (by omega)
 have f0:=flat_get h4 i 0 hi' (by omega)
 have f1:=flat_get h4 i 1 hi' (by omega)
 rw [e] at f0 f1
 have c0:=hc _ _ f0
 have c1:=hc _ _ f1
 rw [← Nat.add_assoc] at c1
 exact ⟨b,o,E,m,k,eA,hb,c0,c1,g⟩
structure BOwn (w:World) (base B:Nat) (v:Value) (l:List Bt):Prop where
 ex:∃ vss:List (List Value),vss.length=l.length∧w.ownsRow base 111 2 v l.length vss.flatten∧∀ i (h:i<l.length) (h':i<vss.length),BtV w B l[i] vss[i]
theorem BOwn.start (w:World) (base B:Nat):BOwn w base B (.slice none 0 0) []:=⟨[],rfl,World.ownsRow_nil _ _ _ _,fun i h=>absurd h (by simp)⟩
theorem BOwn.below {w w':World} {base B:Nat} {v:Value} {l:List Bt} (h:BOwn w base B v l) (hb:Below w.heap.size w w') (hB:B≤w.heap.size):BOwn w' base B v l:=by
 obtain ⟨vss,h1,h2,h3⟩:=h.ex
 exact ⟨vss,h1,h2.kept (grow_of_below hb none) (by cases hv:v.ownBlock <;> simp),fun i a b=>(h3 i a b).keep (fun b o hlt=>hb.cell (Nat.lt_of_lt_of_le hlt hB))⟩
theorem BOwn.put {w w5:World} {base B:Nat} {v v':Value} {l:List Bt} {d:Bt} {u:List Value} {xs:List Value} (hx:∃ vss:List (List Value),vss.length=l.length∧w.ownsRow base 111 2 v l.length vss.flatten∧(∀ i (h:i<l.length) (h':i<vss.length),BtV w B l[i] vss[i])∧xs=vss.flatten)
  (hp:w5.ownsRow base 111 2 v' (l.length+1) (xs ++ u)) (hg:w.grownBy w5 v.ownBlock) (hd:BtV w B d u) (hB:B≤base) (hw:B≤w.heap.size):BOwn w5 base B v' (l ++ [d]):=by
 obtain ⟨vss,h1,h2,h3,rfl⟩:=hx
 have keep:∀ b o,b<B→w5.cell? ⟨b,o,none⟩=w.cell? ⟨b,o,none⟩:=fun b o hlt=>cell_same (hg.block b (Nat.lt_of_lt_of_le hlt hw) (fun e=>by have:=(h2.lt b e.symm).1; omega)) o
 refine ⟨vss ++ [u],by simp [h1],?_,fun i a b=>?_⟩
 ·rw [List.flatten_append,List.length_append]
  simpa using hp
 ·by_cases hi:i<l.length
  ·rw [List.getElem_append_left hi,List.getElem_append_left (by omega)]
   exact (h3 i hi (by omega)).keep keep
  ·have hi':i=l.length:=by simp at a; omega
   subst hi'
   rw [List.getElem_append_right (by omega),List.getElem_append_right (by omega)]
   simp only [Nat.sub_self,h1,List.getElem_cons_zero]
   exact hd.keep keep
theorem BOwn.read {w:World} {base B:Nat} {v:Value} {l:List Bt} (h:BOwn w base B v l):∃ A c,v=.slice A l.length c∧BtsAt w (fun b=>base≤b∧b<w.heap.size) B A l.length c l:=by
 obtain ⟨vss,h1,h2,h3⟩:=h.ex
 obtain ⟨A,c,rfl,_,hc,hn,_⟩:=Ev.own_shape2 h2
 exact ⟨A,c,rfl,⟨rfl,hc,vss,h1,(ReadsS.of_own h2).mono (fun b hb=>⟨hb.1,hb.2.1⟩),fun i a b=>h3 i a b⟩⟩
end Go.Proofs.YtmomjpolkkbhnaaGreat.Mx
end
