/- loggiaref17.Pieces: the walk (printed by gen_qpd.py). -/
import Derived.Test.YtmomjpolkkbhnaaGreatQModelPagesRow19
import Derived.Test.YtmomjpolkkbhnaaGreatQModelPagesRow0
set_option linter.unusedSimpArgs false
set_option maxRecDepth 20000
namespace Go.Proofs.YtmomjpolkkbhnaaGreat.Qp
open Go.RowKit Ut Tk Qy
theorem pieceN_paren (l:P) (h:l.head?=some 40∨l.head?=some 41):pieceN l=1:=by unfold pieceN; rw [if_pos h]
theorem pieceN_quote (l:P) (h:l.head?=some 34):pieceN l=quotedN l:=by unfold pieceN; rw [if_neg (by rw [h]; simp),if_pos h]
theorem pieceN_plain (l:P) (h0:l.head?≠some 40) (h1:l.head?≠some 41) (h2:l.head?≠some 34) (k:Nat) (hk:endAt l=k):pieceN l =
  if l[k]?=some 34∧l[k - 1]?=some 58 then (if quotedN (l.drop k)=0 then 0 else k+quotedN (l.drop k)) else k:=by
 subst hk
 unfold pieceN
 rw [if_neg (by rintro (h | h); exact h0 h; exact h1 h),if_neg h2]
set_option maxHeartbeats 3200000 in
theorem pieces_ref (s:ByteArray) (w:World) (hs:s.size≤1048576):Calls Tryz.prog 41 #[.string s] w (PcsPost w (pieces s.data.toList)):=by
 obtain ⟨i0,hi0,hz0,hz1,hz2⟩:=info_parts str_info
 go_enter Tryz.func41,Tryz.ntmps41
 go_wp2_with fail
 go_loopw [4,5] (fun v i wr=>∃ (a:Nat) (acc:List P),a≤s.size∧i=.int .i64 (a:Int)∧Hid (pieces s.data.toList=(pieces (s.data.toList.drop a)).map (acc ++ ·))∧acc.length≤a∧Strs w wr v acc) (fun _ i _=>s.size - (intOf i).toNat)
 case atStart=>exact ⟨0,[],Nat.zero_le _,rfl,zh (by simp),zG _,⟨World.ownsRow_nil _ _ _ _,Below.refl _ _⟩⟩
 case round =>
  obtain ⟨a,acc,ha,rfl,hpc,hac,hT⟩:=hrel
  have HT:=zh hT
  clear hT
  have ha0:(0:Int)≤(a:Int):=by omega
  by_cases hlt:a<s.size
  ·have hd:s.data.toList.drop a=s[a] :: s.data.toList.drop (a+1):=List.drop_eq_getElem_cons (by rw [bsize]; exact hlt)
   have hh:(s.data.toList.drop a).head?=some s[a]:=by rw [hd]; rfl
   have u0:=u8_eq s[a] 32
   have u1:=u8_eq s[a] 9
   have u2:=u8_eq s[a] 40
   have u3:=u8_eq s[a] 41
   have u4:=u8_eq s[a] 34
   simp only [show (UInt8.toNat 34:Int)=34 from rfl,show (UInt8.toNat 41:Int)=41 from rfl,show (UInt8.toNat 40:Int)=40 from rfl,show (UInt8.toNat 32:Int)=32 from rfl,show (UInt8.toNat 9:Int)=9 from rfl] at u0 u1 u2 u3 u4
   have hb0:blank s[a]=(s[a] == 32 || s[a] == 9):=rfl
   by_cases hb:blank s[a]=true
   ·have Hn:Hid (pieces s.data.toList=(pieces (s.data.toList.drop (a+1))).map (acc ++ ·)):=zh (by rw [hpc.out,hd,pieces_blank _ _ hb])
    have hb2:((s[a].toNat:Int) == 32)=true∨(((s[a].toNat:Int) == 32)=false∧((s[a].toNat:Int) == 9)=true):=by
     rw [u0,u1]
     rw [hb0] at hb
     cases h9:s[a] == 32 with
     | true=>exact .inl rfl
     | false=>rw [h9] at hb; exact .inr ⟨rfl,by simpa using hb⟩
    clear hd hh u0 u1 u2 u3 u4 hb0 hb hpc
    rcases hb2 with t0 | ⟨t0,t1⟩
    all_goals
     go_wp2_with fail
     go_roundw
     case rel=>exact ⟨a+1,acc,by omega,by go_num,Hn,by omega,HT.out⟩
     case measure=>simp [intOf]; omega
   ·have hb':blank s[a]=false:=by simpa using hb
    have t0:((s[a].toNat:Int) == 32)=false:=by
     rw [u0]; rw [hb0] at hb'; simp only [Bool.or_eq_false_iff] at hb'; exact hb'.1
    have t1:((s[a].toNat:Int) == 9)=false:=by
     rw [u1]; rw [hb0] at hb'; simp only [Bool.or_eq_false_iff] at hb'; exact hb'.2
    have Hpn:Hid (pieces (s.data.toList.drop a)=if pieceN (s.data.toList.drop a)=0 then none else (pieces ((s.data.toList.drop a).drop (pieceN (s.data.toList.drop a)))).map (fun l=>(s.data.toList.drop a).take (pieceN (s.data.toList.drop a)) :: l)):=zh (by
     have:=pieces_cons s[a] (s.data.toList.drop (a+1)) hb'
     rw [← hd] at this
     exact this)
    have hle:=pieceN_le (s.data.toList.drop a)
    rw [List.length_drop,bsize] at hle
    have hcd:=quoted_ref s a wr hlt hs
    clear hd hb0 hb hb'
    by_cases hp:s[a]=40∨s[a]=41
    ·have e1:=pieceN_paren (s.data.toList.drop a) (by rw [hh]; rcases hp with h | h <;> simp [h])
     have hp2:((s[a].toNat:Int) == 40)=true∨(((s[a].toNat:Int) == 40)=false∧((s[a].toNat:Int) == 41)=true):=by
      rw [u2,u3]
      by_cases h:s[a]=40
      ·exact .inl (beq_iff_eq.2 h)
      ·refine .inr ⟨beq_eq_false_iff_ne.2 h,beq_iff_eq.2 (hp.resolve_left h)⟩
     rw [e1] at Hpn hle
     clear e1 hh u0 u1 u2 u3 u4 hp hcd
     obtain ⟨n,hn⟩:∃ n:Nat,n=1:=⟨1,rfl⟩
     rw [← hn] at Hpn hle
     have hN:a+n=a+1:=by omega
     have e8:((a+1:Nat):Int)=(a:Int)+1:=by omega
     have h9:(a:Int)+1≤(s.size:Int):=by omega
     have Hx:Hid (s.extract a (a+1)=str ((s.data.toList.drop a).take n)):=zh (by
      rw [← of_str (s.extract a (a+1)),Lib.extract_data,show (a+1) - a=n from by omega])
     have Hn:Hid (pieces s.data.toList=(pieces (s.data.toList.drop (a+1))).map ((acc ++ [(s.data.toList.drop a).take n]) ++ ·)):=zh (by
      rw [hpc.out,Hpn.out,if_neg (by omega),List.drop_drop,← hN,Option.map_map]
      congr 1
      funext l
      simp)
     have hown:=HT.out.own
     have hbs:=HT.out.bel.size
     clear Hpn hpc hN
     generalize (s.data.toList.drop a).take n=x at *
     rcases hp2 with t2 | ⟨t2,t3⟩
     all_goals
      go_wp2_with (first
       | (at_builtin; refine wpList_append_own _ rfl _ _ 57 rfl w.heap.size 9 i0 _ 1 16 Tryz.underlying57 hi0 hz0 hz1 hz2 rfl (by decide) _ _ _ rfl (hown.alloc _) ⟨wr.heap.size,0,none⟩ 1 1 [.string (s.extract a (a+1))] rfl rfl (World.news_of_block (cs:=#[.string (s.extract a (a+1))]) (t:=9) (fr:=(0,0)) (heap_alloc_new wr _)) (fun u hu=>by simp at hu; subst hu; rfl) (by unfold maxLen; omega) (by omega) (by simp; omega) ?_))
      intro v' w5 hown5 hg5 _
      rw [Hx.out] at hown5
      have HT5:=zh ((HT.out.below ((Below.refl _ _).alloc (zG _) _)).put hown5 hg5)
      clear hown5 hg5 hown
      go_wp2_with fail
      go_roundw
      case rel=>exact ⟨a+1,acc ++ [x],by omega,by go_num,Hn,by rw [List.length_append,List.length_singleton]; omega,HT5.out⟩
      case measure=>simp [intOf]; omega
    ·have n40:¬ s[a]=40:=fun h=>hp (.inl h)
     have n41:¬ s[a]=41:=fun h=>hp (.inr h)
     have t2:((s[a].toNat:Int) == 40)=false:=by rw [u2]; exact beq_eq_false_iff_ne.2 n40
     have t3:((s[a].toNat:Int) == 41)=false:=by rw [u3]; exact beq_eq_false_iff_ne.2 n41
     by_cases hq:s[a]=34
     ·have t4:((s[a].toNat:Int) == 34)=true:=by rw [u4]; exact beq_iff_eq.2 hq
      have e1:=pieceN_quote (s.data.toList.drop a) (by rw [hh,hq])
      rw [e1] at Hpn hle
      clear e1 hh u0 u1 u2 u3 u4 hp hq n40 n41
      generalize quotedN (s.data.toList.drop a)=n at *
      by_cases hn:n=0
      ·subst hn
       have Fin:Hid (pieces s.data.toList=none):=zh (by rw [hpc.out,Hpn.out,if_pos rfl]; rfl)
       rw [qtV_no] at hcd
       clear Hpn hpc
       go_wp2_with (go_at_call 77; refine hcd.mono ?_; rintro e w' ⟨rfl,rfl⟩)
       go_ret2
       exact (by rw [Fin.out]; exact ⟨rfl,HT.out.bel⟩)
      ·rw [qtV_yes _ _ hn] at hcd
       have hN:a+n=a+n:=rfl
       have h9:((a+n:Nat):Int)≤(s.size:Int):=by omega
       have h8:(0:Int)≤((a+n:Nat):Int):=by omega
       have h7:(a:Int)≤((a+n:Nat):Int):=by omega
       have Hx:Hid (s.extract a (a+n)=str ((s.data.toList.drop a).take n)):=zh (by
        rw [← of_str (s.extract a (a+n)),Lib.extract_data,show (a+n) - a=n from by omega])
       have Hn:Hid (pieces s.data.toList=(pieces (s.data.toList.drop (a+n))).map ((acc ++ [(s.data.toList.drop a).take n]) ++ ·)):=zh (by
        rw [hpc.out,Hpn.out,if_neg (by omega),List.drop_drop,← hN,Option.map_map]
        congr 1
        funext l
        simp)
       have hown:=HT.out.own
       have hbs:=HT.out.bel.size
       clear Hpn hpc hN
       generalize (s.data.toList.drop a).take n=x at *
       go_wp2_with (first
        | (go_at_call 77; refine hcd.mono ?_; rintro e w' ⟨rfl,rfl⟩)
        | (at_builtin; refine wpList_append_own _ rfl _ _ 57 rfl w.heap.size 9 i0 _ 1 16 Tryz.underlying57 hi0 hz0 hz1 hz2 rfl (by decide) _ _ _ rfl (hown.alloc _) ⟨wr.heap.size,0,none⟩ 1 1 [.string (s.extract a (a+n))] rfl rfl (World.news_of_block (cs:=#[.string (s.extract a (a+n))]) (t:=9) (fr:=(0,0)) (heap_alloc_new wr _)) (fun u hu=>by simp at hu; subst hu; rfl) (by unfold maxLen; omega) (by omega) (by simp; omega) ?_))
       intro v' w5 hown5 hg5 _
       rw [Hx.out] at hown5
       have HT5:=zh ((HT.out.below ((Below.refl _ _).alloc (zG _) _)).put hown5 hg5)
       clear hown5 hg5 hown
       go_wp2_with fail
       go_roundw
       case rel=>exact ⟨a+n,acc ++ [x],by omega,by go_num,Hn,by rw [List.length_append,List.length_singleton]; omega,HT5.out⟩
       case measure=>simp [intOf]; omega
     ·have t4:((s[a].toNat:Int) == 34)=false:=by rw [u4]; exact beq_eq_false_iff_ne.2 hq
      have E3:=zh (pieceN_plain (s.data.toList.drop a) (by rw [hh]; simpa using n40) (by rw [hh]; simpa using n41) (by rw [hh]; simpa using hq))
      have hnb:(s.data.toList.drop a)[0]?=some s[a]:=by rw [← hh]; cases s.data.toList.drop a <;> rfl
      have He:ends s[a]=false:=by
       have hb1:(s[a] == 32)=false:=by rw [← u0]; exact t0
       have hb2:(s[a] == 9)=false:=by rw [← u1]; exact t1
       have hb3:(s[a] == 40)=false:=by rw [← u2]; exact t2
       have hb4:(s[a] == 41)=false:=by rw [← u3]; exact t3
       have hb5:(s[a] == 34)=false:=by rw [← u4]; exact t4
       unfold ends
       rw [hb1,hb2,hb3,hb4,hb5]; rfl
      have Hst:Hid (∀ x∈(s.data.toList.drop a).take (a+1 - a),ends x=false):=zh (by
       rw [show a+1 - a=1 by omega]
       cases hl:s.data.toList.drop a with
       | nil=>simp
       | cons x l =>
        rw [hl] at hnb
        simp only [zB,Option.some.injEq] at hnb
        intro y hy
        simp only [List.take_succ_cons,List.take_zero,List.mem_singleton] at hy
        rw [hy,hnb]; exact He)
      have Hend:=zh (findIdx_of ends (s.data.toList.drop a))
      clear hnb He hh u0 u1 u2 u3 u4 hp hq n40 n41 hcd hle
      go_wp2_with fail
      go_loopw [7] (fun e wi=>∃ m:Nat,a≤m∧m+1≤s.size∧e=.int .i64 ((m+1:Nat):Int)∧wr=wi∧Hid (∀ x∈(s.data.toList.drop a).take (m+1 - a),ends x=false)) (fun e _=>s.size - (intOf e).toNat)
      case atStart=>exact ⟨a,zG _,by omega,by go_num,rfl,Hst⟩
      case round =>
       obtain ⟨m,ham,hm,rfl,rfl,hal⟩:=hrel
       have hm0:(0:Int)≤(m:Int):=by omega
       have e8:((m+1:Nat):Int)=(m:Int)+1:=by omega
       by_cases hk:m+1<s.size
       ·have hkl:m+1 - a<(s.data.toList.drop a).length:=by rw [List.length_drop,bsize]; omega
        have g1:(s.data.toList.drop a)[m+1 - a]?=some s[m+1]:=by
         rw [List.getElem?_drop,show a+(m+1 - a)=m+1 by omega]; exact get_of s _ hk
        have hge:(s.data.toList.drop a)[m+1 - a]=s[m+1]:=by
         have:=List.getElem?_eq_getElem hkl
         rw [g1] at this
         injection this with this
         exact this.symm
        have u5:=u8_eq s[m+1] 34
        rw [show (UInt8.toNat 34:Int)=34 from rfl] at u5
        by_cases he:ends s[m+1]=true
        ·have Hk:Hid (endAt (s.data.toList.drop a)=m+1 - a):=zh (Hend.out _ hal.out (by omega) (fun _=>by rw [hge]; exact he))
         have hm9:m<s.size:=by omega
         have g2:(s.data.toList.drop a)[m+1 - a - 1]?=some s[m]:=by
          rw [List.getElem?_drop,show a+(m+1 - a - 1)=m by omega]; exact get_of s _ hm9
         have u6:=u8_eq s[m] 58
         rw [show (UInt8.toNat 58:Int)=58 from rfl] at u6
         have e4:=E3.out _ Hk.out
         rw [g1,g2,List.drop_drop,show a+(m+1 - a)=m+1 by omega] at e4
         by_cases q:s[m+1]=34
         ·have t5:((s[m+1].toNat:Int) == 34)=true:=by rw [u5]; exact beq_iff_eq.2 q
          by_cases q2:s[m]=58
          ·have t6:((s[m].toNat:Int) == 58)=true:=by rw [u6]; exact beq_iff_eq.2 q2
           have hcd:=quoted_ref s (m+1) wr hk hs
           have hle:=quotedN_le (s.data.toList.drop (m+1))
           rw [List.length_drop,bsize] at hle
           rw [if_pos ⟨by rw [q],by rw [q2]⟩] at e4
           rw [e4] at Hpn
           clear e4 g1 g2 hge hkl u5 u6 q q2 Hk hal Hend E3 Hst
           generalize quotedN (s.data.toList.drop (m+1))=r at *
           by_cases hr:r=0
           ·subst hr
            have Fin:Hid (pieces s.data.toList=none):=zh (by rw [hpc.out,Hpn.out,if_pos rfl,if_pos rfl]; rfl)
            rw [qtV_no] at hcd
            clear Hpn hpc
            go_wp2_with (first
             | (go_at_call 78; refine (plain_ref s[m+1] _).mono ?_; rintro e w' ⟨rfl,rfl⟩)
             | (go_at_call 77; refine hcd.mono ?_; rintro e w' ⟨rfl,rfl⟩))
            go_ret2
            exact (by rw [Fin.out]; exact ⟨rfl,HT.out.bel⟩)
           ·rw [qtV_yes _ _ hr] at hcd
            rw [if_neg hr] at Hpn
            obtain ⟨n,hn⟩:∃ n:Nat,n=m+1 - a+r:=⟨_,rfl⟩
            rw [← hn] at Hpn
            have hN:a+n=m+1+r:=by omega
            have h9:((m+1+r:Nat):Int)≤(s.size:Int):=by omega
            have h8:(0:Int)≤((m+1+r:Nat):Int):=by omega
            have h7:(a:Int)≤((m+1+r:Nat):Int):=by omega
            have Hx:Hid (s.extract a (m+1+r)=str ((s.data.toList.drop a).take n)):=zh (by
             rw [← of_str (s.extract a (m+1+r)),Lib.extract_data,show (m+1+r) - a=n from by omega])
            have Hn:Hid (pieces s.data.toList=(pieces (s.data.toList.drop (m+1+r))).map ((acc ++ [(s.data.toList.drop a).take n]) ++ ·)):=zh (by
             rw [hpc.out,Hpn.out,if_neg (by omega),List.drop_drop,← hN,Option.map_map]
             congr 1
             funext l
             simp)
            have hown:=HT.out.own
            have hbs:=HT.out.bel.size
            clear Hpn hpc hN
            generalize (s.data.toList.drop a).take n=x at *
            go_wp2_with (first
             | (go_at_call 78; refine (plain_ref s[m+1] _).mono ?_; rintro e w' ⟨rfl,rfl⟩)
             | (go_at_call 77; refine hcd.mono ?_; rintro e w' ⟨rfl,rfl⟩)
             | (at_builtin; refine wpList_append_own _ rfl _ _ 57 rfl w.heap.size 9 i0 _ 1 16 Tryz.underlying57 hi0 hz0 hz1 hz2 rfl (by decide) _ _ _ rfl (hown.alloc _) ⟨wr.heap.size,0,none⟩ 1 1 [.string (s.extract a (m+1+r))] rfl rfl (World.news_of_block (cs:=#[.string (s.extract a (m+1+r))]) (t:=9) (fr:=(0,0)) (heap_alloc_new wr _)) (fun u hu=>by simp at hu; subst hu; rfl) (by unfold maxLen; omega) (by omega) (by simp; omega) ?_))
            intro v' w5 hown5 hg5 _
            rw [Hx.out] at hown5
            have HT5:=zh ((HT.out.below ((Below.refl _ _).alloc (zG _) _)).put hown5 hg5)
            clear hown5 hg5 hown
            go_wp2_with fail
            go_roundw
            case rel=>exact ⟨m+1+r,acc ++ [x],by omega,by go_num,Hn,by rw [List.length_append,List.length_singleton]; omega,HT5.out⟩
            case measure=>simp [intOf]; omega
          ·have t6:((s[m].toNat:Int) == 58)=false:=by rw [u6]; exact beq_eq_false_iff_ne.2 q2
           rw [if_neg (by simp [q2])] at e4
           rw [e4] at Hpn
           clear e4 g1 g2 hge hkl u5 u6 q q2 Hk hal Hend E3 Hst
           obtain ⟨n,hn⟩:∃ n:Nat,n=m+1 - a:=⟨_,rfl⟩
           rw [← hn] at Hpn
           have hN:a+n=m+1:=by omega
           have Hx:Hid (s.extract a (m+1)=str ((s.data.toList.drop a).take n)):=zh (by
            rw [← of_str (s.extract a (m+1)),Lib.extract_data,show (m+1) - a=n from by omega])
           have Hn:Hid (pieces s.data.toList=(pieces (s.data.toList.drop (m+1))).map ((acc ++ [(s.data.toList.drop a).take n]) ++ ·)):=zh (by
            rw [hpc.out,Hpn.out,if_neg (by omega),List.drop_drop,← hN,Option.map_map]
            congr 1
            funext l
            simp)
           have hown:=HT.out.own
           have hbs:=HT.out.bel.size
           clear Hpn hpc hN
           generalize (s.data.toList.drop a).take n=x at *
           go_wp2_with (first
            | (go_at_call 78; refine (plain_ref s[m+1] _).mono ?_; rintro e w' ⟨rfl,rfl⟩)
            | (at_builtin; refine wpList_append_own _ rfl _ _ 57 rfl w.heap.size 9 i0 _ 1 16 Tryz.underlying57 hi0 hz0 hz1 hz2 rfl (by decide) _ _ _ rfl (hown.alloc _) ⟨wr.heap.size,0,none⟩ 1 1 [.string (s.extract a (m+1))] rfl rfl (World.news_of_block (cs:=#[.string (s.extract a (m+1))]) (t:=9) (fr:=(0,0)) (heap_alloc_new wr _)) (fun u hu=>by simp at hu; subst hu; rfl) (by unfold maxLen; omega) (by omega) (by simp; omega) ?_))
           intro v' w5 hown5 hg5 _
           rw [Hx.out] at hown5
           have HT5:=zh ((HT.out.below ((Below.refl _ _).alloc (zG _) _)).put hown5 hg5)
           clear hown5 hg5 hown
           go_wp2_with fail
           go_roundw
           case rel=>exact ⟨m+1,acc ++ [x],by omega,by go_num,Hn,by rw [List.length_append,List.length_singleton]; omega,HT5.out⟩
           case measure=>simp [intOf]; omega
         ·have t5:((s[m+1].toNat:Int) == 34)=false:=by rw [u5]; exact beq_eq_false_iff_ne.2 q
          rw [if_neg (by simp [q])] at e4
          rw [e4] at Hpn
          clear e4 g1 g2 hge hkl u5 u6 q Hk hal Hend E3 Hst
          obtain ⟨n,hn⟩:∃ n:Nat,n=m+1 - a:=⟨_,rfl⟩
          rw [← hn] at Hpn
          have hN:a+n=m+1:=by omega
          have Hx:Hid (s.extract a (m+1)=str ((s.data.toList.drop a).take n)):=zh (by
           rw [← of_str (s.extract a (m+1)),Lib.extract_data,show (m+1) - a=n from by omega])
          have Hn:Hid (pieces s.data.toList=(pieces (s.data.toList.drop (m+1))).map ((acc ++ [(s.data.toList.drop a).take n]) ++ ·)):=zh (by
           rw [hpc.out,Hpn.out,if_neg (by omega),List.drop_drop,← hN,Option.map_map]
           congr 1
           funext l
           simp)
          have hown:=HT.out.own
          have hbs:=HT.out.bel.size
          clear Hpn hpc hN
          generalize (s.data.toList.drop a).take n=x at *
          go_wp2_with (first
           | (go_at_call 78; refine (plain_ref s[m+1] _).mono ?_; rintro e w' ⟨rfl,rfl⟩)
           | (at_builtin; refine wpList_append_own _ rfl _ _ 57 rfl w.heap.size 9 i0 _ 1 16 Tryz.underlying57 hi0 hz0 hz1 hz2 rfl (by decide) _ _ _ rfl (hown.alloc _) ⟨wr.heap.size,0,none⟩ 1 1 [.string (s.extract a (m+1))] rfl rfl (World.news_of_block (cs:=#[.string (s.extract a (m+1))]) (t:=9) (fr:=(0,0)) (heap_alloc_new wr _)) (fun u hu=>by simp at hu; subst hu; rfl) (by unfold maxLen; omega) (by omega) (by simp; omega) ?_))
          intro v' w5 hown5 hg5 _
          rw [Hx.out] at hown5
          have HT5:=zh ((HT.out.below ((Below.refl _ _).alloc (zG _) _)).put hown5 hg5)
          clear hown5 hg5 hown
          go_wp2_with fail
          go_roundw
          case rel=>exact ⟨m+1,acc ++ [x],by omega,by go_num,Hn,by rw [List.length_append,List.length_singleton]; omega,HT5.out⟩
          case measure=>simp [intOf]; omega
        ·have he':ends s[m+1]=false:=by simpa using he
         have Hnx:Hid (∀ x∈(s.data.toList.drop a).take (m+1+1 - a),ends x=false):=zh (fun x hx=>by
          rw [show m+1+1 - a=(m+1 - a)+1 by omega,List.take_succ_eq_append_getElem hkl,List.mem_append] at hx
          rcases hx with hx | hx
          ·exact hal.out x hx
          ·rw [List.mem_singleton] at hx; rw [hx,hge]; exact he')
         clear hal he g1 hge hkl u5 Hend E3 Hst Hpn hpc
         go_wp2_with (go_at_call 78; refine (plain_ref s[m+1] _).mono ?_; rintro e w' ⟨rfl,rfl⟩)
         go_roundw
         case rel=>exact ⟨m+1,by omega,by omega,by go_num,by first | rfl | trivial,Hnx⟩
         case measure=>simp [intOf]; omega
       ·have Hk:Hid (endAt (s.data.toList.drop a)=m+1 - a):=zh (Hend.out _ hal.out (by rw [List.length_drop,bsize]; omega) (fun h=>absurd h (by rw [List.length_drop,bsize]; omega)))
        have g1:(s.data.toList.drop a)[m+1 - a]?=none:=List.getElem?_eq_none (by rw [List.length_drop,bsize]; omega)
        have e4:=E3.out _ Hk.out
        rw [g1,if_neg (by simp)] at e4
        rw [e4] at Hpn
        clear e4 g1 Hk hal Hend E3 Hst
        have hk2:(s.size:Int)≤(m:Int)+1:=by omega
        obtain ⟨n,hn⟩:∃ n:Nat,n=m+1 - a:=⟨_,rfl⟩
        rw [← hn] at Hpn
        have hN:a+n=m+1:=by omega
        have Hx:Hid (s.extract a (m+1)=str ((s.data.toList.drop a).take n)):=zh (by
         rw [← of_str (s.extract a (m+1)),Lib.extract_data,show (m+1) - a=n from by omega])
        have Hn:Hid (pieces s.data.toList=(pieces (s.data.toList.drop (m+1))).map ((acc ++ [(s.data.toList.drop a).take n]) ++ ·)):=zh (by
         rw [hpc.out,Hpn.out,if_neg (by omega),List.drop_drop,← hN,Option.map_map]
         congr 1
         funext l
         simp)
        have hown:=HT.out.own
        have hbs:=HT.out.bel.size
        clear Hpn hpc hN
        generalize (s.data.toList.drop a).take n=x at *
        go_wp2_with (first
         | (go_at_call 78; refine (plain_ref s[m+1] _).mono ?_; rintro e w' ⟨rfl,rfl⟩)
         | (at_builtin; refine wpList_append_own _ rfl _ _ 57 rfl w.heap.size 9 i0 _ 1 16 Tryz.underlying57 hi0 hz0 hz1 hz2 rfl (by decide) _ _ _ rfl (hown.alloc _) ⟨wr.heap.size,0,none⟩ 1 1 [.string (s.extract a (m+1))] rfl rfl (World.news_of_block (cs:=#[.string (s.extract a (m+1))]) (t:=9) (fr:=(0,0)) (heap_alloc_new wr _)) (fun u hu=>by simp at hu; subst hu; rfl) (by unfold maxLen; omega) (by omega) (by simp; omega) ?_))
        intro v' w5 hown5 hg5 _
        rw [Hx.out] at hown5
        have HT5:=zh ((HT.out.below ((Below.refl _ _).alloc (zG _) _)).put hown5 hg5)
        clear hown5 hg5 hown
        go_wp2_with fail
        go_roundw
        case rel=>exact ⟨m+1,acc ++ [x],by omega,by go_num,Hn,by rw [List.length_append,List.length_singleton]; omega,HT5.out⟩
        case measure=>simp [intOf]; omega
  ·obtain rfl:a=s.size:=by omega
   have Fin:Hid (pieces s.data.toList=some acc):=zh (by rw [hpc.out,List.drop_of_length_le (by rw [bsize]; omega),pieces_nil]; simp)
   clear hpc
   go_wp2_with fail
   go_ret2
   exact (by rw [Fin.out]; exact ⟨_,rfl,HT.out.own,HT.out.bel⟩)
end Go.Proofs.YtmomjpolkkbhnaaGreat.Qp


