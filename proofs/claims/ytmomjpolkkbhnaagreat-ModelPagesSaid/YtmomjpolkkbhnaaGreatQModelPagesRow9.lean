/- The reference's Decode. -/
import Derived.StillTail
import Derived.Test.YtmomjpolkkbhnaaGreatQModelPagesRow7
import Derived.Test.YtmomjpolkkbhnaaGreatQModelPagesRow3
import Derived.Test.YtmomjpolkkbhnaaGreatQModelPagesRow0
set_option maxRecDepth 20000
section
namespace Go.Proofs.YtmomjpolkkbhnaaGreat.Ut
open Go.RowKit
set_option maxRecDepth 20000 in
set_option maxHeartbeats 1600000 in
theorem decr_2 (s:ByteArray) (k m:Nat) (w:World) (hk:k<s.size) (hs:s.size≤140737488351232) (hm:(s[k]).toNat=m) (h6:m / 32=6) :
  Calls Tryz.prog 205 #[.string s,.int .i64 (k:Int)] w fun e w'=>e=.returned (.tuple #[.int .i64 ((form (m % 32) (s.data.toList.drop (k+1)) 2 128 2047).1:Nat),.int .i64 ((form (m % 32) (s.data.toList.drop (k+1)) 2 128 2047).2:Nat)])∧w=w':=by
 have h0:¬ (k:Int)<0:=by omega
 have h1:¬ (s.size:Int)≤(k:Int):=by omega
 have h2:¬ (m:Int)<128:=by omega
 have h3:(m:Int) / 32=6:=by omega
 have h4:¬ (m:Int) / 16=14:=by omega
 have h5:¬ (m:Int) / 8=30:=by omega
 have c:=row_any s k (m % 32) 2 w hk hs (by omega) (by omega) (by omega)
 have hlt:=row_lt (m % 32) 32 (s.data.toList.drop (k+1)) 2 (by omega) (by omega) (by omega) (by omega)
 have hfo:=form_row (m % 32) (s.data.toList.drop (k+1)) 2 128 2047 _ _ rfl rfl
 rw [show ((m % 32:Nat):Int)=(m:Int) % 32 from by omega] at c
 generalize form (m % 32) (s.data.toList.drop (k+1)) 2 128 2047=F at *
 generalize rowOf (m % 32) (s.data.toList.drop (k+1)) 2=a at *
 generalize rowOk (s.data.toList.drop (k+1)) 2=ok at *
 clear h6
 by_cases hcase:ok=true∧128≤a
 ·obtain ⟨rfl,h128⟩:=hcase
  have hF:=hfo.1 rfl h128 (by omega) (by omega)
  subst hF
  have h129:¬ (a:Int)<128:=by omega
  clear hfo
  go_enter Tryz.func205,Tryz.ntmps205
  go_wp2_with fail
  refine c.mono ?_
  rintro e w1 ⟨rfl,rfl⟩
  go_wp2
  go_ret2
  exact ⟨rfl,rfl⟩
 ·have hF:=hfo.2 (by rcases Bool.eq_false_or_eq_true ok with h | h; (· exact Or.inr (Or.inl (by have:¬ 128≤a:=fun h'=>hcase ⟨h,h'⟩; omega))); exact Or.inl h)
  subst hF
  clear hfo
  rcases Bool.eq_false_or_eq_true ok with rfl | rfl
  ·have h129:(a:Int)<128:=by have:¬ 128≤a:=fun h'=>hcase ⟨rfl,h'⟩; omega
   clear hcase
   go_enter Tryz.func205,Tryz.ntmps205
   go_wp2_with fail
   refine c.mono ?_
   rintro e w1 ⟨rfl,rfl⟩
   go_wp2
   go_ret2
   exact ⟨rfl,rfl⟩
  ·clear hcase
   go_enter Tryz.func205,Tryz.ntmps205
   go_wp2_with fail
   refine c.mono ?_
   rintro e w1 ⟨rfl,rfl⟩
   go_wp2
   go_ret2
   exact ⟨rfl,rfl⟩
set_option maxRecDepth 20000 in
set_option maxHeartbeats 1600000 in
theorem decr_3 (s:ByteArray) (k m:Nat) (w:World) (hk:k<s.size) (hs:s.size≤140737488351232) (hm:(s[k]).toNat=m) (h6:m / 16=14) :
  Calls Tryz.prog 205 #[.string s,.int .i64 (k:Int)] w fun e w'=>e=.returned (.tuple #[.int .i64 ((form (m % 16) (s.data.toList.drop (k+1)) 3 2048 65535).1:Nat),.int .i64 ((form (m % 16) (s.data.toList.drop (k+1)) 3 2048 65535).2:Nat)])∧w=w':=by
 have h0:¬ (k:Int)<0:=by omega
 have h1:¬ (s.size:Int)≤(k:Int):=by omega
 have h2:¬ (m:Int)<128:=by omega
 have h3:¬ (m:Int) / 32=6:=by omega
 have h4:(m:Int) / 16=14:=by omega
 have h5:¬ (m:Int) / 8=30:=by omega
 have c:=row_any s k (m % 16) 3 w hk hs (by omega) (by omega) (by omega)
 have hlt:=row_lt (m % 16) 16 (s.data.toList.drop (k+1)) 3 (by omega) (by omega) (by omega) (by omega)
 have hfo:=form_row (m % 16) (s.data.toList.drop (k+1)) 3 2048 65535 _ _ rfl rfl
 rw [show ((m % 16:Nat):Int)=(m:Int) % 16 from by omega] at c
 generalize form (m % 16) (s.data.toList.drop (k+1)) 3 2048 65535=F at *
 generalize rowOf (m % 16) (s.data.toList.drop (k+1)) 3=a at *
 generalize rowOk (s.data.toList.drop (k+1)) 3=ok at *
 clear h6
 have Hlt:Hid (a≤65535):=zh (by omega)
 clear hlt
 rcases Bool.eq_false_or_eq_true ok with rfl | rfl
 ·by_cases g1 : 2048≤a
  ·have g1':¬ (a:Int)<2048:=by omega
   by_cases g2 : 55296≤a
   ·by_cases g3:a≤57343
    ·have hF:=hfo.2 (Or.inr (Or.inr (Or.inr ⟨g2,g3⟩)))
     subst hF
     have g2':¬ (a:Int)<55296:=by omega
     have g3':¬ (57343:Int)<a:=by omega
     clear hfo g1 g2 g3
     try dsimp only
     generalize (a:Int)=z at *
     go_enter Tryz.func205,Tryz.ntmps205
     go_wp2_with fail
     refine c.mono ?_
     rintro e w1 ⟨rfl,rfl⟩
     go_wp2
     go_ret2
     exact ⟨rfl,rfl⟩
    ·have hF:=hfo.1 rfl g1 Hlt.out (by omega)
     subst hF
     have g2':¬ (a:Int)<55296:=by omega
     have g3':(57343:Int)<a:=by omega
     clear hfo g1 g2 g3
     try dsimp only
     generalize (a:Int)=z at *
     go_enter Tryz.func205,Tryz.ntmps205
     go_wp2_with fail
     refine c.mono ?_
     rintro e w1 ⟨rfl,rfl⟩
     go_wp2
     go_ret2
     exact ⟨rfl,rfl⟩
   ·have hF:=hfo.1 rfl g1 Hlt.out (by omega)
    subst hF
    have g2':(a:Int)<55296:=by omega
    clear hfo g1 g2
    try dsimp only
    generalize (a:Int)=z at *
    go_enter Tryz.func205,Tryz.ntmps205
    go_wp2_with fail
    refine c.mono ?_
    rintro e w1 ⟨rfl,rfl⟩
    go_wp2
    go_ret2
    exact ⟨rfl,rfl⟩
  ·have hF:=hfo.2 (Or.inr (Or.inl (by omega)))
   subst hF
   have g1':(a:Int)<2048:=by omega
   clear hfo g1
   try dsimp only
   generalize (a:Int)=z at *
   go_enter Tryz.func205,Tryz.ntmps205
   go_wp2_with fail
   refine c.mono ?_
   rintro e w1 ⟨rfl,rfl⟩
   go_wp2
   go_ret2
   exact ⟨rfl,rfl⟩
 ·have hF:=hfo.2 (Or.inl rfl)
  subst hF
  clear hfo
  try dsimp only
  generalize (a:Int)=z at *
  go_enter Tryz.func205,Tryz.ntmps205
  go_wp2_with fail
  refine c.mono ?_
  rintro e w1 ⟨rfl,rfl⟩
  go_wp2
  go_ret2
  exact ⟨rfl,rfl⟩
set_option maxRecDepth 20000 in
set_option maxHeartbeats 1600000 in
theorem decr_4 (s:ByteArray) (k m:Nat) (w:World) (hk:k<s.size) (hs:s.size≤140737488351232) (hm:(s[k]).toNat=m) (h6:m / 8=30) :
  Calls Tryz.prog 205 #[.string s,.int .i64 (k:Int)] w fun e w'=>e=.returned (.tuple #[.int .i64 ((form (m % 8) (s.data.toList.drop (k+1)) 4 65536 1114111).1:Nat),.int .i64 ((form (m % 8) (s.data.toList.drop (k+1)) 4 65536 1114111).2:Nat)])∧w=w':=by
 have h0:¬ (k:Int)<0:=by omega
 have h1:¬ (s.size:Int)≤(k:Int):=by omega
 have h2:¬ (m:Int)<128:=by omega
 have h3:¬ (m:Int) / 32=6:=by omega
 have h4:¬ (m:Int) / 16=14:=by omega
 have h5:(m:Int) / 8=30:=by omega
 have c:=row_any s k (m % 8) 4 w hk hs (by omega) (by omega) (by omega)
 have hfo:=form_row (m % 8) (s.data.toList.drop (k+1)) 4 65536 1114111 _ _ rfl rfl
 rw [show ((m % 8:Nat):Int)=(m:Int) % 8 from by omega] at c
 generalize form (m % 8) (s.data.toList.drop (k+1)) 4 65536 1114111=F at *
 generalize rowOf (m % 8) (s.data.toList.drop (k+1)) 4=a at *
 generalize rowOk (s.data.toList.drop (k+1)) 4=ok at *
 clear h6
 rcases Bool.eq_false_or_eq_true ok with rfl | rfl
 ·by_cases g1 : 65536≤a
  ·have g1':¬ (a:Int)<65536:=by omega
   by_cases g2:a≤1114111
   ·have hF:=hfo.1 rfl g1 g2 (by omega)
    subst hF
    have g2':¬ (1114111:Int)<a:=by omega
    clear hfo g1 g2
    try dsimp only
    generalize (a:Int)=z at *
    go_enter Tryz.func205,Tryz.ntmps205
    go_wp2_with fail
    refine c.mono ?_
    rintro e w1 ⟨rfl,rfl⟩
    go_wp2
    go_ret2
    exact ⟨rfl,rfl⟩
   ·have hF:=hfo.2 (Or.inr (Or.inr (Or.inl (by omega))))
    subst hF
    have g2':(1114111:Int)<a:=by omega
    clear hfo g1 g2
    try dsimp only
    generalize (a:Int)=z at *
    go_enter Tryz.func205,Tryz.ntmps205
    go_wp2_with fail
    refine c.mono ?_
    rintro e w1 ⟨rfl,rfl⟩
    go_wp2
    go_ret2
    exact ⟨rfl,rfl⟩
  ·have hF:=hfo.2 (Or.inr (Or.inl (by omega)))
   subst hF
   have g1':(a:Int)<65536:=by omega
   clear hfo g1
   try dsimp only
   generalize (a:Int)=z at *
   go_enter Tryz.func205,Tryz.ntmps205
   go_wp2_with fail
   refine c.mono ?_
   rintro e w1 ⟨rfl,rfl⟩
   go_wp2
   go_ret2
   exact ⟨rfl,rfl⟩
 ·have hF:=hfo.2 (Or.inl rfl)
  subst hF
  clear hfo
  try dsimp only
  generalize (a:Int)=z at *
  go_enter Tryz.func205,Tryz.ntmps205
  go_wp2_with fail
  refine c.mono ?_
  rintro e w1 ⟨rfl,rfl⟩
  go_wp2
  go_ret2
  exact ⟨rfl,rfl⟩
theorem decr_out (s:ByteArray) (a:Int) (w:World) (h:a<0∨(s.size:Int)≤a) :
  Calls Tryz.prog 205 #[.string s,.int .i64 a] w fun e w'=>e=.returned (.tuple #[.int .i64 0,.int .i64 0])∧w=w':=by
 by_cases h0:a<0
 ·clear h
  go_enter Tryz.func205,Tryz.ntmps205
  go_wp2
  go_ret2
  exact ⟨rfl,rfl⟩
 ·have h1:(s.size:Int)≤a:=by omega
  clear h
  go_enter Tryz.func205,Tryz.ntmps205
  go_wp2
  go_ret2
  exact ⟨rfl,rfl⟩
theorem decr_low (s:ByteArray) (k m:Nat) (w:World) (hk:k<s.size) (hm:(s[k]).toNat=m) (h:m<128) :
  Calls Tryz.prog 205 #[.string s,.int .i64 (k:Int)] w fun e w'=>e=.returned (.tuple #[.int .i64 (m:Int),.int .i64 1])∧w=w':=by
 have h0:¬ (k:Int)<0:=by omega
 have h1:¬ (s.size:Int)≤(k:Int):=by omega
 have h2:(m:Int)<128:=by omega
 go_enter Tryz.func205,Tryz.ntmps205
 go_wp2
 go_ret2
 exact ⟨rfl,rfl⟩
theorem decr_none (s:ByteArray) (k m:Nat) (w:World) (hk:k<s.size) (hm:(s[k]).toNat=m) (h128 : 128≤m) (h256:m<256) (h6:¬ m / 32=6) (h14:¬ m / 16=14) (h30:¬ m / 8=30) :
  Calls Tryz.prog 205 #[.string s,.int .i64 (k:Int)] w fun e w'=>e=.returned (.tuple #[.int .i64 65533,.int .i64 1])∧w=w':=by
 have h0:¬ (k:Int)<0:=by omega
 have h1:¬ (s.size:Int)≤(k:Int):=by omega
 have h2:¬ (m:Int)<128:=by omega
 have h3:¬ (m:Int) / 32=6:=by omega
 have h4:¬ (m:Int) / 16=14:=by omega
 have h5:¬ (m:Int) / 8=30:=by omega
 go_enter Tryz.func205,Tryz.ntmps205
 go_wp2
 go_ret2
 exact ⟨rfl,rfl⟩
theorem decr_any (s:ByteArray) (a:Int) (w:World) (hs:s.size≤140737488351232) :
  Calls Tryz.prog 205 #[.string s,.int .i64 a] w fun e w'=>e=.returned (.tuple #[.int .i64 ((decAt s a).1:Nat),.int .i64 ((decAt s a).2:Nat)])∧w=w':=by
 by_cases h:a<0∨(s.size:Int)≤a
 ·have e:decAt s a=(0,0):=by
   unfold decAt
   by_cases h0:a<0
   ·rw [if_pos h0]
   ·rw [if_neg h0,drop_out s a.toNat (by omega)]; rfl
  rw [e]
  exact decr_out s a w h
 ·obtain ⟨k,rfl⟩:=Int.eq_ofNat_of_zero_le (show 0≤a by omega)
  have hk:k<s.size:=by omega
  have e:decAt s (k:Int)=dec (s[k] :: s.data.toList.drop (k+1)):=by
   unfold decAt
   rw [if_neg (by omega),Int.toNat_natCast,drop_cons s k hk]
  rw [e,dec_cons]
  by_cases h1:(s[k]).toNat<128
  ·rw [if_pos h1]; exact decr_low s k _ w hk rfl h1
  ·rw [if_neg h1]
   by_cases h2:(s[k]).toNat / 32=6
   ·rw [if_pos h2]; exact decr_2 s k _ w hk hs rfl h2
   ·rw [if_neg h2]
    by_cases h3:(s[k]).toNat / 16=14
    ·rw [if_pos h3]; exact decr_3 s k _ w hk hs rfl h3
    ·rw [if_neg h3]
     by_cases h4:(s[k]).toNat / 8=30
     ·rw [if_pos h4]; exact decr_4 s k _ w hk hs rfl h4
     ·rw [if_neg h4]; exact decr_none s k _ w hk rfl (by omega) (s[k]).toNat_lt h2 h3 h4
end Go.Proofs.YtmomjpolkkbhnaaGreat.Ut
end

section
namespace Go.Proofs.YtmomjpolkkbhnaaGreat.Ut
open Go.RowKit
set_option maxHeartbeats 800000 in
theorem runes_ref (s:ByteArray) (w:World) (hs:s.size≤4398046511104) :
  Calls Tryz.prog 188 #[.string s] w fun e w'=>∃ v,e=.returned v∧w'.ownsRow w.heap.size 3 1 v (runes s.data.toList).length (rv (runes s.data.toList))∧Below w.heap.size w w':=by
 obtain ⟨i0,hi0,hz0,hz1,hz2⟩:=info_parts int_info
 go_enter Tryz.func188,Tryz.ntmps188
 go_wp2
 go_loopw [3,4] (fun v i wr=>∃ (k:Nat) (l:List Nat),k≤s.size∧i=.int .i64 k∧l.length≤k∧runes s.data.toList=l ++ runes (s.data.toList.drop k)∧wr.ownsRow w.heap.size 3 1 v l.length (rv l)∧Below w.heap.size w wr)
  (fun _ i _=>s.size - (intOf i).toNat)
 case atStart=>exact ⟨0,[],Nat.zero_le _,rfl,by simp,rfl,World.ownsRow_nil _ _ _ _,Below.refl _ _⟩
 case round =>
  obtain ⟨k,l,hk,rfl,hlk,hru,hown,hb⟩:=hrel
  by_cases hlt:k<s.size
  ·have hne:s.data.toList.drop k≠[]:=by rw [drop_cons s k hlt]; simp
   have hsz:=dec_size _ hne
   rw [List.length_drop,bsize] at hsz
   have hrc:=runes_cons _ hne
   rw [hrc,List.drop_drop] at hru
   have c:=decr_any s (k:Int) wr (by omega)
   rw [decAt_nat] at c
   have Hru:=zh hru
   clear hrc hru hne
   generalize dec (s.data.toList.drop k)=d at *
   have hd1:=hsz.1
   have hd2:=hsz.2.1
   have hd4:=hsz.2.2
   clear hsz
   go_wp2_with fail
   refine c.mono ?_
   rintro e wr ⟨rfl,rfl⟩
   have hbw:=hb
   have hown2:=hown
   have hsz2:=hbw.size
   go_wp2_with (at_builtin; refine wpList_append_own _ rfl _ _ 27 rfl w.heap.size 3 i0 (.int .i64 0) 1 8 Tryz.underlying27 hi0 hz0 hz1 hz2 rfl (by decide) _ _ _ rfl (hown2.alloc _) ⟨wr.heap.size,0,none⟩ 1 1 [.int .i64 (d.1:Int)] rfl rfl ?c1 ?c2 ?c3 ?c4 ?c5 ?_)
   case c1=>exact World.news_of_block (cs:=#[.int .i64 (d.1:Int)]) (t:=3) (fr:=(0,0)) (heap_alloc_new wr _)
   case c2=>intro u hu; simp at hu; subst hu; rfl
   case c3=>unfold maxLen; omega
   case c4=>omega
   case c5=>simp; omega
   intro v' w3 hown3 hg3 _
   have hb3:Below w.heap.size w w3:=(hbw.alloc hsz2 _).grown hg3 (by simp; omega) (fun j hj=>(hown2.lt _ hj).1)
   have Hb3:=zh hb3
   have Hown3:=zh hown3
   clear hb3 hown3 hg3 hown2 hbw hown hb
   go_wp2
   go_roundw
   case rel=>exact ⟨k+d.2,l ++ [d.1],by omega,by go_num,by rw [List.length_append]; simp; omega,by rw [Hru.out]; simp,by
     rw [List.length_append]
     have:=Hown3.out
     simpa [rv] using this,Hb3.out⟩
   case measure=>simp [intOf]; omega
  ·have hd0:s.data.toList.drop k=[]:=drop_out s k (by omega)
   rw [hd0,runes_nil,List.append_nil] at hru
   have Hru:=zh hru
   clear hru hd0
   go_wp2
   go_ret
   exact ⟨_,rfl,by rw [Hru.out]; exact hown,hb⟩
end Go.Proofs.YtmomjpolkkbhnaaGreat.Ut
end

section
namespace Go.Proofs.YtmomjpolkkbhnaaGreat
open Go Go.RowKit
section
variable {P:Program} {ops:Array Oper} {md:Region.Mode} {C:World→Prop} {G:World→World→Prop} {Q:Act→World→Prop} {S:Nat→Option RSpec} {n g:Nat} {K:Array Bool→Act→(Nat→World→Prop)→Prop}
def TAnyL (P:Program) (md:Region.Mode) (ops:Array Oper) (C:World→Prop) (G:World→World→Prop) (S:Nat→Option RSpec) (n:Nat) (K:Array Bool→Act→(Nat→World→Prop)→Prop):Nat→Array Bool→Act→(Nat→World→Prop)→Prop
 | 0,listed,a,F=>SatT C F→K listed a F
 | fuel+1,listed,a,F=>SatT C F→(Region.ready md ops listed≠[] ∧
  ∀ i∈Region.ready md ops listed,i<n∧∀ o,ops[i]?=some o→stepT P ops C G md S i o (TAnyL P md ops C G S n K fuel (listed.setIfInBounds i true)) a F)
theorem wpAny_of_TL (hS:∀ i s,S i=some s→∀ x w w',G w w'→s.Φ x w→s.Φ x w') {Q':Exit→Act→World→Prop} (hK:∀ listed a F w,K listed a F→C w→(∀ j,F j w)→wpAny P md ops Q' g listed a w) :
  ∀ (fuel:Nat) (listed:Array Bool) (a:Act) (F:Nat→World→Prop) (w:World),C w→(∀ j,F j w)→Lasts G F→TAnyL P md ops C G S n K fuel listed a F→wpAny P md ops Q' (fuel+g) listed a w
 | 0,_,a,F,w,hC,hF,_,h=>by rw [Nat.zero_add]; exact hK _ _ _ _ (h ⟨w,hC,hF⟩) hC hF
 | fuel+1,listed,a,F,w,hC,hF,hL,h=>by
  rw [show fuel+1+g=(fuel+g)+1 by omega]
  have h:=h ⟨w,hC,hF⟩
  refine ⟨fun h0=>absurd h0 h.1,fun i hi=>?_⟩
  unfold wpOp
  obtain ⟨_,o,ho,_⟩:=mem_ready.1 hi
  simp only [ho]
  have hs:=(h.2 i hi).2 o ho
  unfold stepT at hs
  split
  ·rename_i hw
   rw [if_pos hw] at hs
   left
   split at hs
   ·rename_i hSi
    obtain ⟨c,h1,h2⟩:=hs
    rcases h1 w hC (fun e _ _=>hF e.on) with hr | ⟨hr,rfl⟩
    ·unfold Oper.wp; rw [hr]
     exact wpAny_of_TL hS hK fuel _ _ F w hC hF hL h2
    ·unfold Oper.wp; rw [hr]
     exact wpAny_of_TL hS hK fuel _ _ F w hC hF hL h2
   ·rename_i s hSi
    refine wp_of_gives ?_ (hs.1 w hC (fun e _ _=>hF e.on))
    rintro v w' hg ⟨hC',x,rfl,hx⟩
    refine wpAny_of_TL hS hK fuel _ _ _ w' hC' ?_ (hL.upd i (hS i s hSi x)) (hs.2 x)
    intro j
    unfold upd
    split
    ·exact ⟨hL j _ _ hg (hF j),hx⟩
    ·exact hL j _ _ hg (hF j)
  ·rename_i hw
   rw [if_neg hw] at hs
   exact wpAny_of_TL hS hK fuel _ _ F w hC hF hL hs
theorem TAnyL_first (hS:∀ i s,S i=some s→∀ x w w',G w w'→s.Φ x w→s.Φ x w') {i:Nat} {oi:Oper} (hi:ops[i]?=some oi) (hsel:∀ (j:Nat) (o:Oper) cs b,ops[j]?=some o→o.op≠.select cs b)
  (hs:Region.sinkB md ops n=true) (hc:Region.chainB md ops n=true) (hn:n<ops.size) (hin:i<n) (hdone:∀ listed a F,K listed a F→∀ j∈Region.ready md ops listed,n≤j)
  {V:Type} {f:V→Value} {p:V→Option (World→Prop)} :
  ∀ (fuel:Nat) (listed:Array Bool) (a:Act) (F:Nat→World→Prop),HeadInv md ops n listed→Lasts G F →
   (∀ j oj,ops[j]?=some oj→j≠i→listed.getD j true=false→(∀ e∈oj.after,Region.binds md e=true→e.on≠i)→oi.apart ops oj=true) →
   i∈Region.ready md ops listed→Head P ops C G md S i oi a F V f p →
   (∀ x,TAnyL P md ops C G S n K fuel (listed.setIfInBounds i true) (a.put oi.dst (f x)) (updO F i (p x)))→TAnyL P md ops C G S n K (fuel+1) listed a F:=by
 intro fuel
 induction fuel with
 | zero =>
  intro listed a F inv hL _ hr hy H hsat
  have hun:=(mem_ready.1 hr).1
  refine ⟨fun h=>(by rw [h] at hr; cases hr),fun j hj=>?_⟩
  have hjn:j<n:=by
   rcases Nat.lt_or_ge j n with h | h
   ·exact h
   ·exact absurd hj (tail_waits hs hc hn inv _ i rfl hin hun j h)
  refine ⟨hjn,fun oj hoj=>?_⟩
  by_cases hji:j=i
  ·subst hji
   rw [hi] at hoj
   injection hoj with hoj
   subst hoj
   exact hy.step H
  ·obtain ⟨x,hx⟩:=hy.sat hL hsat
   have:=hdone _ _ _ (H x hx) j (ready_mono hj hji)
   omega
 | succ fuel ih =>
  intro listed a F inv hL hfree hr hy H hsat
  have hun0:=(mem_ready.1 hr).1
  refine ⟨fun h=>(by rw [h] at hr; cases hr),fun j hj=>?_⟩
  have hjn:j<n:=by
   rcases Nat.lt_or_ge j n with h | h
   ·exact h
   ·exact absurd hj (tail_waits hs hc hn inv _ i rfl hin hun0 j h)
  refine ⟨hjn,fun oj hoj=>?_⟩
  by_cases hji:j=i
  ·subst hji
   rw [hi] at hoj
   injection hoj with hoj
   subst hoj
   exact hy.step H
  ·obtain ⟨hjun,oj',hoj',hall⟩:=mem_ready.1 hj
   rw [hoj] at hoj'
   injection hoj' with hoj'
   subst hoj'
   have hnot:∀ e∈oj.after,Region.binds md e=true→e.on≠i:=fun e he hb heq=>by
    have h1:=hall e he hb
    have h0:=(mem_ready.1 hr).1
    rw [heq] at h1
    rcases Nat.lt_or_ge i listed.size with h' | h'
    ·simp [h'] at h0 h1; rw [h0] at h1; cases h1
    ·simp [Array.getElem?_eq_none h'] at h1
   have hnot2:∀ e∈oi.after,Region.binds md e=true→e.on≠j:=fun e he hb heq=>by
    obtain ⟨h0,o2,ho2,hall2⟩:=mem_ready.1 hr
    rw [hi] at ho2
    injection ho2 with ho2
    subst ho2
    have h1:=hall2 e he hb
    rw [heq] at h1
    rcases Nat.lt_or_ge j listed.size with h' | h'
    ·simp [h'] at hjun h1; rw [hjun] at h1; cases h1
    ·simp [Array.getElem?_eq_none h'] at h1
   have hap:=hfree j oj hoj hji hjun hnot
   obtain ⟨a1,a2,a3⟩:=Oper.apart_spec hap
   have hsi:∀ cs b,oi.op≠.select cs b:=fun cs b=>hsel i oi cs b hi
   have hsj:∀ cs b,oj.op≠.select cs b:=fun cs b=>hsel j oj cs b hoj
   obtain ⟨x0,hx0⟩:=hy.sat hL hsat
   obtain ⟨Vj,fj,pj,hj0,_⟩:=head_of_step (((H x0 hx0).2 j (ready_mono hj hji)).2 oj hoj)
   have hjH:∀ x,Head P ops C G md S j oj (a.put oi.dst (f x)) (updO F i (p x)) Vj fj pj:=fun x =>
    hj0.same ((execOp_put oj hsj a oi.dst _ a1).trans (execOp_put oj hsj a oi.dst _ a1).symm) ((wanted_put oj a oi.dst _ a1).trans (wanted_put oj a oi.dst _ a1).symm) (fun w=>(deps_updO hnot w).trans (deps_updO hnot w).symm)
   have hja:Head P ops C G md S j oj a F Vj fj pj:=hj0.same (execOp_put oj hsj a oi.dst _ a1).symm (wanted_put oj a oi.dst _ a1).symm (fun w=>(deps_updO hnot w).symm)
   refine hja.step fun y=>?_
   refine ih (listed.setIfInBounds j true) (a.put oj.dst (fj y)) (updO F j (pj y)) (inv.set hj hjn) (hja.lasts hS hL y) ?_ (ready_mono hr (Ne.symm hji)) ?_ ?_
   ·intro k ok hk hki hun hno
    refine hfree k ok hk hki ?_ hno
    by_cases hjk:j=k
    ·subst hjk; exact hjun
    ·rw [getD_set_ne true hjk] at hun; exact hun
   ·exact hy.same (execOp_put oi hsi a oj.dst _ a3) (wanted_put oi a oj.dst _ a3) (fun w=>deps_updO hnot2 w)
   ·intro x
    rw [← updO_comm (Ne.symm hji),← Act.put_comm a (f x) (fj y) a2,Array.setIfInBounds_comm _ _ hji]
    have hb:SatT C (updO F i (p x))→TAnyL P md ops C G S n K fuel ((listed.setIfInBounds i true).setIfInBounds j true) ((a.put oi.dst (f x)).put oj.dst (fj y)) (updO (updO F i (p x)) j (pj y)):=by
     intro hsx
     obtain ⟨V',f',p',h',hk'⟩:=head_of_step (((H x hsx).2 j (ready_mono hj hji)).2 oj hoj)
     obtain ⟨y',e1,e2⟩:=(hjH x).one h' hsx y
     rw [← e1,← e2]
     exact hk' y'
    cases fuel with
    | zero=>exact fun hs=>hb (sat_updO hs) hs
    | succ fuel=>exact fun hs=>hb (sat_updO hs) hs
theorem TAnyL_lex (hS:∀ i s,S i=some s→∀ x w w',G w w'→s.Φ x w→s.Φ x w') (hsel:Region.noSelect ops=true) (hs:Region.sinkB md ops n=true) (hc:Region.chainB md ops n=true) (hn:n<ops.size) :
  ∀ (l:List Oper) (k:Nat) (listed:Array Bool) (a:Act) (F:Nat→World→Prop),HeadInv md ops n listed→Lasts G F→(∀ j,j<l.length→l[j]?=ops[k+j]?)→k+l.length=n →
  Region.lexHead md ops g l.length k listed=true→wpGrow P ops C G md S Q l k a F →
  TAnyL P md ops C G S n (fun listed' a' F'=>Region.seqB md ops g n listed'=true∧FinT C Q a' F') l.length listed a F
 | [],k,listed,a,F,_,_,_,hk,hB,h=>fun _=>by
  have:k=n:=by simpa using hk
  subst this
  exact ⟨by simpa [Region.lexHead] using hB,h⟩
 | o :: l,k,listed,a,F,inv,hL,hl,hk,hB,h=>by
  have h0:ops[k]?=some o:=by simpa using (hl 0 (by simp)).symm
  simp only [List.length_cons,Region.lexHead,Bool.and_eq_true] at hB
  obtain ⟨⟨hr,hf⟩,hB'⟩:=hB
  have hkn:k<n:=by simp only [List.length_cons] at hk; omega
  have hr':k∈Region.ready md ops listed:=by simpa using hr
  obtain ⟨V,f,p,hh,hk'⟩:=head_of_step (show stepT P ops C G md S k o (wpGrow P ops C G md S Q l (k+1)) a F from h)
  exact TAnyL_first hS h0 (Region.noSelect_spec hsel) hs hc hn hkn (fun listed' a' F' hL=>seqB_ready hL.1) l.length listed a F inv hL (Region.free_spec h0 hf) hr' hh
   (fun x=>TAnyL_lex hS hsel hs hc hn l (k+1) _ _ _ (inv.set hr' hkn) (hh.lasts hS hL x) (fun j hj=>by have:=hl (j+1) (by simp; omega); simpa [Nat.add_assoc,Nat.add_comm 1 j] using this) (by simp only [List.length_cons] at hk; omega) hB' (hk' x))
theorem wp_region_grow_tail {id:Nat} {Q':Exit→Act→World→Prop} {a:Act} {w:World} {l:List Oper} (n:Nat) (S:Nat→Option RSpec) (C:World→Prop) (G:World→World→Prop)
  (hm:P.follows .mixedOrders=true) (hB:Region.lexTailB .any l.toArray n=true) (hS:∀ i s,S i=some s→∀ x w w',G w w'→s.Φ x w→s.Φ x w') (hC:C { w with drawn:=w.drawn+1 })
  (h:GrowAt P l.toArray C G .any S (fun a w=>wpList P l.toArray Q' (l.drop n) a w) (l.take n) 0 a (fun _ _=>True)):(Code.region id l.toArray true).wp P Q' a w:=by
 simp only [Region.lexTailB,Bool.and_eq_true,decide_eq_true_eq] at hB
 obtain ⟨⟨⟨⟨hsel,hn⟩,hs⟩,hc⟩,hlex⟩:=hB
 have hn':n<l.length:=by simpa using hn
 have htl:(l.take n).length=n:=by simp; omega
 have hdl:(l.drop n).length=l.toArray.size - n:=by simp
 have inv0:HeadInv .any l.toArray n (Array.replicate l.toArray.size false) :=
  ⟨by simp,fun j oj _ hl=>(by rw [getD_replicate_false] at hl; cases hl),fun t _ ht=>getD_in (by simpa using ht) (getD_replicate_false _ _)⟩
 have H:=TAnyL_lex (C:=C) (G:=G) (md:=.any) (g:=l.toArray.size - n) hS hsel hs hc hn (l.take n) 0 _ a (fun _ _=>True) inv0 (fun _ _ _ _ _=>trivial) (fun j hj=>by
  have hj':j<n:=by rw [htl] at hj; exact hj
  simp [hj']) (by simpa using htl) (by rw [htl]; exact hlex) h.out
 refine wp_region_any hm ?_
 have:=wpAny_of_TL (Q':=Q') (g:=l.toArray.size - n) hS (fun listed a' F' w' hL hC' hF'=>by
  have:=wpAny_of_seq (md:=.any) (Q':=Q') (l.drop n) n listed a' w' (fun j=>by simp [List.getElem?_drop]) (by rw [hdl]; exact hL.1) (hL.2 w' hC' hF')
  rwa [hdl] at this) _ _ _ _ _ hC (fun _=>trivial) (fun _ _ _ _ _=>trivial) H
 rw [htl,show n+(l.toArray.size - n)=l.toArray.size by omega] at this
 exact this
theorem give_value {o:Oper} {a:Act} {w:World} {R:Value→World→Prop} {u:Value} {w':World} (hr:(execOp a.eval o).run P w=.ok (.value u) w') (hg:G w w') (h:R u w'):growUpon P G w R ((execOp a.eval o).run P w):=by
 rw [hr]; exact ⟨hg,h⟩
end
end Go.Proofs.YtmomjpolkkbhnaaGreat
end
