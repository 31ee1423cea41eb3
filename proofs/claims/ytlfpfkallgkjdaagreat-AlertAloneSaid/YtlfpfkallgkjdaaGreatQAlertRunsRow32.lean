/- slices.Sort at numbers; alert.Len, Query, IDs: the walks (printed by gen_ald.py). -/
import Derived.Sort.OwnSortedInts
import Derived.Maps.RangeWalk
import Derived.Maps.OwnOps
import Derived.Maps.AppendAt
import Derived.Test.YtlfpfkallgkjdaaGreatQAlertRunsRow30
import Derived.Test.YtlfpfkallgkjdaaGreatQAlertRunsRow31
import Derived.Test.YtlfpfkallgkjdaaGreatQAlertRunsRow0
import Derived.Test.YtlfpfkallgkjdaaGreatQAlertRunsRow15
import Derived.Test.YtlfpfkallgkjdaaGreatQAlertRunsRow1
set_option linter.unusedSimpArgs false
set_option linter.unusedVariables false
set_option maxRecDepth 20000
section
namespace Go.Proofs.YtlfpfkallgkjdaaGreat.Al
open Go.RowKit Go.Maps Go.Sort Ut Tk Qy Qp Ev Mv
theorem int_info:(Tryz.prog.info? 3).map (fun i=>(i.zero,i.size,i.bytes))=some (some (.int .i64 0),1,8):=by kernel_rfl
theorem sortI_own {w:World} {base:Nat} {v:Value} {L:List Int} (h:w.ownsRow base 3 1 v L.length (itv L)) (hl:L.length≤4294967296) :
  Calls Tryz.prog 43 #[v] w fun e w'=>e=.returned (.tuple #[])∧w'.ownsRow base 3 1 v L.length (itv (L.mergeSort fun x y=>decide (x≤y)))∧w.grownBy w' v.ownBlock:=by
 rcases h.2 with ⟨hnil,h0⟩ | ⟨g,cap,cur,hv,hbase,hb,h1,h2,h3,h4⟩
 ·subst hnil
  have hL:L=[]:=List.length_eq_zero_iff.1 h0
  subst hL
  refine (Tryz.slices_Sort_int_none none 0 w).mono ?_
  rintro e w2 ⟨rfl,rfl⟩
  exact ⟨rfl,by simpa using h,grownBy_refl _ _⟩
 ·subst hv
  have hgl:g<w.heap.size:=(Array.getElem?_eq_some_iff.1 hb).1
  have hH:Holds (Value.int .i64) w g 0 L.toArray:=holds_of_blockI hb (by simpa [itv] using h4)
  refine (Tryz.slices_Sort_int g 0 cap L w hH hgl (by omega)).mono ?_
  rintro e w2 ⟨rfl,n,os,rfl⟩
  exact ⟨rfl,ownsRow_sortedI (by simp) hbase hb h1 h2 h3,grownBy_sortedI _⟩
structure WayK {κ:Type} (L:KeyLit κ) (D:DataW Value) (F : κ→Option Value) (left:Lit→Bool) (l:List κ):Prop where
 got:∀ s∈l,(F s).isSome=true∧left (L.lit s)=false
 rest:∀ s,(F s).isSome=true→left (L.lit s)=true∨s∈l
 nd:l.Nodup
 ofD:∀ kl,left kl=true→Maps.has D kl=true
theorem WayK.start {D:DataW Value} {κ:Type} {L:KeyLit κ} {F : κ→Option Value} (h:TabV L D F):WayK L D F (Maps.has D) [] :=
 ⟨fun x hx=>(nomatch hx),fun s e=>.inl (by rw [h.has,e]),List.nodup_nil,fun _ h=>h⟩
theorem WayK.step {D:DataW Value} {κ:Type} [DecidableEq κ] {L:KeyLit κ} {F : κ→Option Value} {left:Lit→Bool} {l:List κ} (h:WayK L D F left l) (hD:TabV L D F) {s : κ} (hl:left (L.lit s)=true) :
  (F s).isSome=true∧s ∉ l∧WayK L D F (fun z=>left z && !z.sameKey (L.lit s)) (l ++ [s]):=by
 have hs:(F s).isSome=true:=by
  have h1:=hD.has s
  rw [h.ofD _ hl] at h1
  exact h1.symm
 have hn:s ∉ l:=fun hm=>by
  have:=(h.got s hm).2
  rw [hl] at this
  cases this
 refine ⟨hs,hn,fun x hx=>?_,fun t ht=>?_,?_,fun kl hk=>h.ofD kl (by rw [Bool.and_eq_true] at hk; exact hk.1)⟩
 ·rcases List.mem_append.1 hx with hx | hx
  ·exact ⟨(h.got x hx).1,by rw [(h.got x hx).2]; rfl⟩
  ·rw [List.mem_singleton] at hx
   subst hx
   exact ⟨hs,by rw [same_dec L]; simp⟩
 ·rcases h.rest t ht with h1 | h1
  ·by_cases e:t=s
   ·exact .inr (by rw [e]; simp)
   ·left
    rw [h1,same_dec L,decide_eq_false e]
    rfl
  ·exact .inr (List.mem_append_left _ h1)
 ·rw [List.nodup_append]
  exact ⟨h.nd,by simp,fun a ha b hb e=>by rw [List.mem_singleton] at hb; rw [e,hb] at ha; exact hn ha⟩
theorem WayK.fin {D:DataW Value} {κ:Type} {L:KeyLit κ} {F : κ→Option Value} {left:Lit→Bool} {l:List κ} (h:WayK L D F left l) (h0:∀ kl,left kl=false):∀ s,s∈l↔(F s).isSome=true:=fun s =>
 ⟨fun hs=>(h.got s hs).1,fun hs=>by
  rcases h.rest s hs with h1 | h1
  ·rw [h0] at h1; cases h1
  ·exact h1⟩
theorem keyI_inv {key:Value} {kl:Lit} (h:keyOf Tryz.prog 3 key=some kl):∃ i:Int,key=.int .i64 i∧kl=litI.lit i∧I64 i:=by
 obtain ⟨x,e1,e2,e3⟩:=Maps.keyOf_int_inv Tryz.underlying3 h
 exact ⟨x,e1,e2,e3⟩
theorem keyS_inv {key:Value} {kl:Lit} (h:keyOf Tryz.prog 9 key=some kl):∃ s:ByteArray,key=.string s∧kl=litS.lit s∧s.size≤maxLen:=by
 have hk:=Tryz.underlying9
 cases key <;> simp [keyOf,hk,mapKey] at h
 exact ⟨_,rfl,h.2.symm,h.1⟩
def NumsP (w:World) (L:List Int) (e:Ending) (w':World):Prop:=∃ v,e=.returned v∧w'.ownsRow w.heap.size 3 1 v L.length (itv L)∧Below w.heap.size w w'
theorem ids_mem {κ:Type}:∀ (l:List (Int × κ)) (i:Int),i∈l.map (·.1)↔(get l i).isSome=true
 | [],i=>by simp [get]
 | x :: l,i=>by
  have ih:=ids_mem l i
  rw [List.map_cons,List.mem_cons,ih,get_cons]
  by_cases h:x.1=i
  ·simp [h]
  ·rw [if_neg h]
   constructor
   ·rintro (e | e)
    ·exact absurd e.symm h
    ·exact e
   ·exact .inr
theorem ids_up {κ:Type} {l:List (Int × κ)} (h:UpI l):(l.map (·.1)).Pairwise (· < ·):=by
 rw [List.pairwise_map]
 exact h
theorem ids_sorted {κ:Type} {l:List (Int × κ)} (hu:UpI l) {ks:List Int} (hn:ks.Nodup) (hm:∀ i,i∈ks↔(get l i).isSome=true):(ks.mergeSort fun x y=>decide (x≤y))=l.map (·.1) :=
 sort_ids hn (ids_up hu) (fun i=>(hm i).trans (ids_mem l i).symm)
section
variable {w:World} {X cn M1 M2:Nat} {F1:Int→Option Value} {F2:ByteArray→Option Nat} {l:List (Int × Kp)}
theorem mapz_len {κ:Type} {P:Program} {k:TypeId} {L:KeyLit κ} {b n:Nat} {f : κ→Option Value} (h:MapZ P k L w b n f) {t e:TypeId} (ht:P.underlying t=some (.map k e)) (ty:TypeId):(Builtin.len_ #[t] ty #[.map (some b)]).run P w=.ok (.int .i64 (n:Nat)) w:=by
 obtain ⟨D,h1,h2,h3⟩:=h.ex
 rw [h1.len ht ty,h3]
theorem len_any (h:AlX w X cn M1 M2 F1 F2 l):Calls Tryz.prog 11 #[.pointer (some ⟨X,0,none⟩)] w fun e w'=>e=.returned (.int .i64 (l.length:Nat))∧w'=w:=by
 have c0:=h.c0
 have c1:=none_no c0
 have hl:=fun ty=>mapz_len h.al.m1 Tryz.underlying83 ty
 clear h
 go_enter Tryz.func11,Tryz.ntmps11
 go_wp2_with fail
 refine c1.mono ?_
 rintro e w2 ⟨rfl,rfl⟩
 clear c1
 go_wp2
 go_ret
 exact ⟨rfl,rfl⟩
def textOf (o:Option Kp):ByteArray:=match o with
 | some k=>k.text
 | none=>ByteArray.empty
set_option maxHeartbeats 800000 in
theorem query_any (i:Int) (hi:I64 i) (h:AlX w X cn M1 M2 F1 F2 l):Calls Tryz.prog 25 #[.pointer (some ⟨X,0,none⟩),.int .i64 i] w fun e w'=>e=.returned (.tuple #[.string (textOf (get l i)),.bool (get l i).isSome])∧Below w.heap.size w w':=by
 have q0:=h.c0
 have c1:=none_no q0
 have HKI:=zh (keyI hi)
 have H:=zh h
 cases hg:get l i with
 | none =>
  have hF:=h.al.kn i hg
  have Hb:=zh ((Below.refl w.heap.size w).alloc (zG _) (.cells #[.string ⟨#[]⟩,.int .i64 0,.string ⟨#[]⟩,.slice none 0 0,.slice none 0 0,.slice none 0 0] 92))
  clear h hg
  go_enter Tryz.func25,Tryz.ntmps25
  go_wp2_with fail
  refine c1.mono ?_
  rintro e w2 ⟨rfl,rfl⟩
  clear c1
  go_wp2_with (first
   | (at_lookup; refine wpList_look2_v rfl (.tmp 14) (.tmp 15) 83 92 rfl lawI Tryz.underlying83 (Tryz.zeroValue92 _) M1 l.length F1 rfl H.out.al.m1.v i rfl HKI.out (.agg #[.string ⟨#[]⟩,.int .i64 0,.string ⟨#[]⟩,.slice none 0 0,.slice none 0 0,.slice none 0 0]) false (by rw [hF]; rfl) (by rw [hF]; rfl) ?_)
   | go_in)
  go_ret2
  exact ⟨rfl,Hb.out⟩
 | some k =>
  obtain ⟨v,hFv,hkv⟩:=h.al.kv i k hg
  obtain ⟨A1,n1,c1',A2,n2,c2,A,c,rfl,_,_⟩:=hkv.parts
  have HFV:Hid (F1 i=some _):=zh hFv
  clear hkv hg h hFv
  generalize hnn:k.needs.length=nn at *
  generalize hqk:k.q.kind=qk at *
  generalize hqn:k.q.name=qn at *
  have Htx:Hid (textOf (some k)=k.text):=zh rfl
  generalize htx:k.text=tx at *
  clear hnn htx hqk hqn
  have Hb:=zh ((Below.refl w.heap.size w).alloc (zG _) (.cells #[.string tx,.int .i64 qk,.string qn,.slice A1 n1 c1',.slice A2 n2 c2,.slice A nn c] 92))
  go_enter Tryz.func25,Tryz.ntmps25
  go_wp2_with fail
  refine c1.mono ?_
  rintro e w2 ⟨rfl,rfl⟩
  clear c1
  go_wp2_with (first
   | (at_lookup; refine wpList_look2_v rfl (.tmp 14) (.tmp 15) 83 92 rfl lawI Tryz.underlying83 (Tryz.zeroValue92 _) M1 l.length F1 rfl H.out.al.m1.v i rfl HKI.out (.agg #[.string tx,.int .i64 qk,.string qn,.slice A1 n1 c1',.slice A2 n2 c2,.slice A nn c]) true (by rw [HFV.out]; rfl) (by rw [HFV.out]; rfl) ?_)
   | go_in)
  go_ret2
  exact ⟨by rw [Htx.out]; rfl,Hb.out⟩
set_option maxHeartbeats 1600000 in
theorem ids_any (h:AlX w X cn M1 M2 F1 F2 l) (hll:l.length≤4294967295):Calls Tryz.prog 27 #[.pointer (some ⟨X,0,none⟩)] w (NumsP w (l.map (·.1))):=by
 obtain ⟨i0,hi0,hz0,hz1,hz2⟩:=info_parts int_info
 have q0:=h.c0
 have c1:=none_no q0
 obtain ⟨D,hown,hT,hsz⟩:=h.al.m1.ex
 have hbl:=hown.lt
 have HT:=zh hT
 have hiff:=h.al.iff
 have HU:=zh h.al.up
 have HIFF:=zh hiff
 clear h hT hiff
 go_enter Tryz.func27,Tryz.ntmps27
 go_wp2_with fail
 refine c1.mono ?_
 rintro e w' ⟨rfl,rfl⟩
 clear c1
 go_wp2_with (first
  | (at_range; refine wpList_range_own _ rfl _ 83 rfl 3 92 lawI Tryz.underlying83 rawR M1 l.length D rfl hown ?_; intro w0 hrg0 hg0 hs0)
  | go_in)
 go_frame
 have Hb0:=zh ((Below.refl w.heap.size w).grown hg0 (zG _) (fun j hj=>by cases hj))
 have Hsz:=zh hsz
 clear hg0 hown q0 hsz
 go_loopw [3] (fun v wr=>∃ (left:Lit→Bool) (cnt:Nat) (ks:List Int),wr.ranges Tryz.prog 3 rawR M1 w.heap.size l.length D left cnt∧ks.length+cnt≤l.length∧Hid (WayK litI D F1 left ks)∧Hid (wr.ownsRow (w.heap.size+1) 3 1 v ks.length (itv ks))∧Hid (Below w.heap.size w wr)∧w.heap.size<wr.heap.size)
  (fun _ wr=>wr.rangeLeft M1 w.heap.size)
 case atStart=>exact ⟨_,_,[],hrg0,by have:=Hsz.out; simp only [List.length_nil]; omega,zh (WayK.start HT.out),zh (World.ownsRow_nil _ _ _ _),Hb0,by omega⟩
 case round =>
  obtain ⟨left,cnt,ks,hrg,hcs,hW,hO,hB,hzr⟩:=hrel
  go_wp2_with (first
   | (at_next; refine wpList_next_ranges _ rfl _ rfl 3 lawI rawR (Value.int .i64) (fun v:Value=>v) (fun key kl hkey=>by obtain ⟨x,rfl,_⟩:=keyI_inv hkey; exact ⟨x,rfl⟩) (fun v y hv=>⟨v,rfl⟩) M1 w.heap.size _ _ _ _ rfl hrg ?_ ?_)
   | go_in)
  ·intro hc0 hl0
   have hfin:=hW.out.fin hl0
   have hst:=ids_sorted HU.out hW.out.nd (fun i=>(hfin i).trans (by rw [HIFF.out i]))
   have HST:=zh hst
   have CS:=zh (sortI_own hO.out (by omega))
   have HBS:=zh (fun b (hb:Value.ownBlock _=some b)=>(hO.out.lt b hb).1)
   clear hrg hl0 hW hfin hst
   go_wp2_with fail
   refine CS.out.mono ?_
   rintro e w2 ⟨rfl,ho2,hg2⟩
   rw [HST.out] at ho2
   have hlen:ks.length=(l.map (·.1)).length:=by rw [← HST.out]; simp
   rw [hlen] at ho2
   have FIN:Hid (NumsP w (l.map (·.1)) (.returned _) w2):=zh ⟨_,rfl,own_mono ho2 (Nat.le_succ _),hB.out.grown hg2 hB.out.size (fun b hb=>by have:=HBS.out b hb; omega)⟩
   clear ho2 hg2 hlen CS hO HBS
   go_wp2
   go_ret
   exact FIN.out
  ·intro x c klx ya yb w3 cnt1 hkey hlx hv hat hrg1 hlt1 hg1 hs1 hen
   obtain ⟨x',ex,rfl,hxs⟩:=keyI_inv hkey
   injection ex with _ ex
   subst ex
   obtain ⟨_,_,hW1⟩:=hW.out.step HT.out hlx
   have hO1:=hO.out.kept hg1 (by cases hv':Value.ownBlock _ with | none=>exact .inl rfl | some g=>exact .inr (fun e=>by injection e with e; have:=(hO.out.lt g hv').1; omega))
   have hB1:=hB.out.grown hg1 hB.out.size (fun j hj=>by injection hj with hj; omega)
   have HW1:=zh hW1
   have HO1:=zh hO1
   have HB1:=zh hB1
   have hb3:=hB1.size
   have hzw:w.heap.size<w3.heap.size:=by omega
   clear hW hW1 hO hO1 hB hB1 hg1 hat hkey hv hlx hs1
   go_wp2_with (first
    | (at_builtin; refine wpList_append_own _ rfl _ _ 38 rfl (w.heap.size+1) 3 i0 _ 1 8 Tryz.underlying38 hi0 hz0 hz1 hz2 rfl (by decide) _ ks.length (itv ks) rfl (HO1.out.alloc _) ⟨w3.heap.size,0,none⟩ 1 1 [.int .i64 x] rfl rfl (World.news_of_block (cs:=#[.int .i64 x]) (t:=3) (fr:=(0,0)) (heap_alloc_new w3 _)) (by simp [Value.oneCell']) ?c1 ?c2 ?c3 ?_)
    | go_in)
   case c1=>unfold maxLen; omega
   case c2=>omega
   intro v4 w4 ho4 hg4 _
   have hne:∀ k:Nat,k≤w.heap.size→some k≠Value.ownBlock _:=fun k hk e=>by have:=(HO1.out.lt k e.symm).1; omega
   have hrg4:=(hrg1.kept (World.grownBy_alloc _ _ none) (by simp) (by simp)).kept hg4 (hne M1 (by omega)) (hne w.heap.size (zG _))
   have hb4:=(HB1.out.alloc HB1.out.size _).grown hg4 (by rw [World.size_alloc]; omega) (fun j hj=>by have:=(HO1.out.lt j hj).1; omega)
   have hz5:=hg4.size
   rw [World.size_alloc] at hz5
   have hm4:=hrg4.left_eq
   have hm0:=hrg.left_eq
   have Ho4:Hid (w4.ownsRow (w.heap.size+1) 3 1 v4 (ks ++ [x]).length (itv (ks ++ [x]))):=zh (by
    have e1:itv (ks ++ [x])=itv ks ++ [.int .i64 x]:=by simp [itv]
    rw [e1,List.length_append]
    exact ho4)
   have Hrg4:=zh hrg4
   have Hb4:=zh hb4
   clear ho4 hg4 hrg4 hb4 hne hrg1 hen
   go_wp2
   go_roundw
   case rel=>exact ⟨_,cnt1,ks ++ [x],Hrg4.out,by rw [List.length_append,List.length_singleton]; omega,HW1,Ho4,Hb4,by omega⟩
   case measure=>rw [hm4,hm0]; exact hlt1
end
end Go.Proofs.YtlfpfkallgkjdaaGreat.Al
end

section
namespace Go.Proofs.YtlfpfkallgkjdaaGreat.Al
open Go.RowKit Go.Maps Ut Tk Qy Qp Ev Mv
inductive PutR:List (Int × Kp)→Int→ByteArray→Int→List (Int × Kp)→Prop
 | arg {l:List (Int × Kp)} {i:Int} {s:ByteArray} (h:i<0∨999999<i):PutR l i s 1 l
 | bad {l:List (Int × Kp)} {i:Int} {s:ByteArray} {E:Int} (h : 0≤i∧i≤999999) (hp:PrsR s.data.toList E none):PutR l i s E l
 | many {l:List (Int × Kp)} {i:Int} {s:ByteArray} {q:Q} (h : 0≤i∧i≤999999) (hp:PrsR s.data.toList 0 (some q)) (hg:get l i=none) (hm : 1000≤l.length):PutR l i s 3 l
 | ok {l:List (Int × Kp)} {i:Int} {s:ByteArray} {q:Q} (h : 0≤i∧i≤999999) (hp:PrsR s.data.toList 0 (some q)) (hm:(get l i).isSome=true∨l.length<1000):PutR l i s 0 (put l i ⟨s,q,needs q⟩)
theorem PutR.det {l l' l'':List (Int × Kp)} {i:Int} {s:ByteArray} {E E':Int} (h:PutR l i s E l') (h':PutR l i s E' l''):E=E'∧l'=l'':=by
 cases h with
 | arg h =>
  cases h' with
  | arg _=>exact ⟨rfl,rfl⟩
  | bad g _=>omega
  | many g _ _ _=>omega
  | ok g _ _=>omega
 | bad h hp =>
  cases h' with
  | arg g=>omega
  | bad _ hp'=>exact ⟨(hp.det hp').1,rfl⟩
  | many _ hp' _ _=>cases (hp.det hp').2
  | ok _ hp' _=>cases (hp.det hp').2
 | many h hp hg hm =>
  cases h' with
  | arg g=>omega
  | bad _ hp'=>cases (hp.det hp').2
  | many _ _ _ _=>exact ⟨rfl,rfl⟩
  | ok _ _ hm' =>
   rw [hg] at hm'
   rcases hm' with hm' | hm'
   ·cases hm'
   ·omega
 | ok h hp hm =>
  cases h' with
  | arg g=>omega
  | bad _ hp'=>cases (hp.det hp').2
  | many _ _ hg' hm' =>
   rw [hg'] at hm
   rcases hm with hm | hm
   ·cases hm
   ·omega
  | ok _ hp' _ =>
   have:=(hp.det hp').2
   injection this with this
   subst this
   exact ⟨rfl,rfl⟩
theorem PutR.few {l l':List (Int × Kp)} {i:Int} {s:ByteArray} {E:Int} (h:PutR l i s E l') (hu:UpI l) (hl:l.length≤1000):l'.length≤1000:=by
 cases h with
 | arg h=>exact hl
 | bad h hp=>exact hl
 | many h hp hg hm=>exact hl
 | ok h hp hm =>
  rw [put_len hu]
  split
  ·exact hl
  ·rename_i hs
   rcases hm with hm | hm
   ·exact absurd hm hs
   ·omega
def PutsP (w:World) (X cn M1 M2:Nat) (F2:ByteArray→Option Nat) (l:List (Int × Kp)) (i:Int) (s:ByteArray) (e:Ending) (w':World):Prop :=
 ∃ E l' F1' F2',PutR l i s E l'∧e=.returned (.int .i64 E)∧AlX w' X (cn+1) M1 M2 F1' F2' l'∧Chg (Own M1 M2 F2) w w'∧∀ b,Own M1 M2 F2' b→Own M1 M2 F2 b∨w.heap.size≤b
section
variable {w:World} {X cn M1 M2:Nat} {F1:Int→Option Value} {F2:ByteArray→Option Nat} {l:List (Int × Kp)}
theorem PutsP.stay {i:Int} {s:ByteArray} {E:Int} {w':World} (h:AlX w X cn M1 M2 F1 F2 l) (hp:PutR l i s E l) (hb:Below w.heap.size w w'):PutsP w X cn M1 M2 F2 l i s (.returned (.int .i64 E)) w' :=
 ⟨E,l,F1,F2,hp,rfl,⟨(h.below hb).blk,(h.below hb).al.more (Nat.le_succ _)⟩,Chg.of_new hb,fun b hb=>.inl hb⟩
set_option maxHeartbeats 6400000 in
theorem puts_any (i:Int) (hi:I64 i) (s:ByteArray) (h:AlX w X cn M1 M2 F1 F2 l) (hll:l.length≤1000) (hcn:cn≤4294967296) :
  Calls Tryz.prog 10 #[.pointer (some ⟨X,0,none⟩),.int .i64 i,.string s] w (PutsP w X cn M1 M2 F2 l i s):=by
 have q0:=h.c0
 have c1:=none_no q0
 have HKI:=zh (keyI hi)
 have H:=zh h
 by_cases h1:i<0
 ·have FIN:=zh (PutsP.stay h (PutR.arg (s:=s) (.inl h1)) (Below.refl _ _))
  clear h
  go_enter Tryz.func10,Tryz.ntmps10
  go_wp2_with fail
  refine c1.mono ?_
  rintro e w2 ⟨rfl,rfl⟩
  clear c1
  go_wp2
  go_ret
  exact FIN.out
 by_cases h2 : 999999<i
 ·have FIN:=zh (PutsP.stay h (PutR.arg (s:=s) (.inr h2)) (Below.refl _ _))
  clear h
  go_enter Tryz.func10,Tryz.ntmps10
  go_wp2_with fail
  refine c1.mono ?_
  rintro e w2 ⟨rfl,rfl⟩
  clear c1
  go_wp2
  go_ret
  exact FIN.out
 have hr : 0≤i∧i≤999999:=⟨by omega,by omega⟩
 have HR:=zh hr
 clear h hr
 go_enter Tryz.func10,Tryz.ntmps10
 go_wp2_with fail
 refine c1.mono ?_
 rintro e w2 ⟨rfl,rfl⟩
 clear c1
 go_wp2_with fail
 refine (parse_any s _).mono ?_
 rintro e w2 ⟨E,o,a0,a1,a2,a3,hp,rfl,hF,hb2⟩
 obtain ⟨A1,n1,c1,A2,n2,c2,e4⟩:=hF.four
 simp only [List.cons.injEq,and_true] at e4
 obtain ⟨rfl,rfl,rfl,rfl⟩:=e4
 cases o with
 | none =>
  have hE:=prs_none hp
  have hb3:Below w.heap.size w (w2.alloc (.cells #[.int .i64 ((none:Option Q).getD noQ).kind,.string ((none:Option Q).getD noQ).name,.slice A1 n1 c1,.slice A2 n2 c2] 52)):=hb2.trans (((Below.refl _ _).alloc (zG _) _).mono hb2.size)
  have FIN:=zh (PutsP.stay H.out (PutR.bad HR.out hp) hb3)
  have hE2:(E != 0)=true:=by simpa using hE
  clear hp hF hb2 hb3 q0
  generalize ((none:Option Q).getD noQ).kind=z1 at *
  generalize ((none:Option Q).getD noQ).name=z2 at *
  go_wp2
  go_ret
  exact FIN.out
 | some q =>
  obtain ⟨rfl,_,hq⟩:=prs_ok hp
  have hF':QF w2 (Sc w2) q [.int .i64 q.kind,.string q.name,.slice A1 n1 c1,.slice A2 n2 c2]:=qf_sc hF
  have HF:=zh hF'
  have HP:=zh hp
  have HQ:=zh hq
  have hk1:((some q:Option Q).getD noQ).kind=q.kind:=rfl
  have hk2:((some q:Option Q).getD noQ).name=q.name:=rfl
  rw [hk1,hk2]
  clear hp hF hF' hq hk1 hk2 q0
  have hqat:QAt w2 w2.heap.size q [.int .i64 q.kind,.string q.name,.slice A1 n1 c1,.slice A2 n2 c2]:=HF.out.at_ (fun b hb=>hb.lt)
  have HQA:=zh hqat
  clear hqat
  generalize hqk:q.kind=qk at *
  generalize hqn:q.name=qn at *
  have HKK:=zh (And.intro hqk hqn)
  clear hqk hqn
  have hba:=(Below.refl w2.heap.size w2).alloc (zG _) (.cells #[.int .i64 qk,.string qn,.slice A1 n1 c1,.slice A2 n2 c2] 52)
  have HBQ:=zh (Blk.new w2 52 #[.int .i64 qk,.string qn,.slice A1 n1 c1,.slice A2 n2 c2])
  have HB3:=zh (hb2.trans (hba.mono hb2.size))
  have HBA:=zh hba
  have hz3:w2.heap.size<(w2.alloc (.cells #[.int .i64 qk,.string qn,.slice A1 n1 c1,.slice A2 n2 c2] 52)).heap.size:=by simp
  have Hb2:=zh hb2
  clear hba hb2
  go_upto_region 8 with (fail)
  generalize w2.alloc (.cells #[.int .i64 qk,.string qn,.slice A1 n1 c1,.slice A2 n2 c2] 52)=w3 at *
  have H3:=zh (H.out.below HB3.out)
  have q0:=H3.out.c0
  have hs23:=HBA.out.size
  obtain ⟨z,hz⟩:∃ z:Value,z=((F1 i).getD (.agg #[.string ⟨#[]⟩,.int .i64 0,.string ⟨#[]⟩,.slice none 0 0,.slice none 0 0,.slice none 0 0])):=⟨_,rfl⟩
  obtain ⟨u0,u1,u2,u3,u4,u5,hzz⟩:∃ (u0 u2:ByteArray) (u1:Int) (u3 u4 u5:Option Addr × Nat × Nat),z=.agg #[.string u0,.int .i64 u1,.string u2,.slice u3.1 u3.2.1 u3.2.2,.slice u4.1 u4.2.1 u4.2.2,.slice u5.1 u5.2.1 u5.2.2]:=by
   cases hg:get l i with
   | none =>
    rw [H.out.al.kn i hg] at hz
    exact ⟨⟨#[]⟩,⟨#[]⟩,0,(none,0,0),(none,0,0),(none,0,0),hz⟩
   | some k =>
    obtain ⟨v,hv1,hv2⟩:=H.out.al.kv i k hg
    rw [hv1] at hz
    obtain ⟨B1,m1,d1,B2,m2,d2,B,d,rfl,_,_⟩:=hv2.parts
    exact ⟨k.text,k.q.name,k.q.kind,(B1,m1,d1),(B2,m2,d2),(B,k.needs.length,d),hz⟩
  subst hzz
  have HZ:=zh hz.symm
  have hiff:=H.out.al.iff i
  have HIF:=zh hiff
  clear hz hiff
  obtain ⟨ok,hok⟩:∃ ok,(get l i).isSome=ok:=⟨_,rfl⟩
  have HOK:=zh hok
  clear hok
  have hbk:=(Below.refl w3.heap.size w3).alloc (zG _) (.cells #[.string u0,.int .i64 u2,.string u1,.slice u3.1 u3.2.1 u3.2.2,.slice u4.1 u4.2.1 u4.2.2,.slice u5.1 u5.2.1 u5.2.2] 92)
  have HB4:=zh (HB3.out.trans (hbk.mono HB3.out.size))
  have HBK:=zh hbk
  clear hbk
  go_upto_region 9 with (first
   | (at_lookup; refine wpList_look2_v rfl (.tmp 33) (.tmp 34) 83 92 rfl lawI Tryz.underlying83 (Tryz.zeroValue92 _) M1 l.length F1 rfl H3.out.al.m1.v i rfl HKI.out (.agg #[.string u0,.int .i64 u2,.string u1,.slice u3.1 u3.2.1 u3.2.2,.slice u4.1 u4.2.1 u4.2.2,.slice u5.1 u5.2.1 u5.2.2]) ok HZ.out (by rw [HIF.out]; exact HOK.out) ?_)
   | go_in)
  generalize w3.alloc (.cells #[.string u0,.int .i64 u2,.string u1,.slice u3.1 u3.2.1 u3.2.2,.slice u4.1 u4.2.1 u4.2.2,.slice u5.1 u5.2.1 u5.2.2] 92)=w4 at *
  have H4:=zh (H.out.below HB4.out)
  clear q0
  have q0:=H4.out.c0
  have hlen:=fun ty=>mapz_len H4.out.al.m1 Tryz.underlying83 ty
  have hs34:=HBK.out.size
  have hs4:=HB4.out.size
  by_cases hmany:ok=false∧1000≤l.length
  ·obtain ⟨rfl,hm⟩:=hmany
   have FIN:=zh (PutsP.stay H.out (PutR.many HR.out HP.out (by cases hg:get l i with | none=>rfl | some k=>have:=HOK.out; rw [hg] at this; cases this) hm) HB4.out)
   have hm':(1000:Int)≤(l.length:Int):=by omega
   go_wp2
   go_ret
   exact FIN.out
  ·have hput:PutR l i s 0 (put l i ⟨s,q,needs q⟩):=PutR.ok HR.out HP.out (by
    rw [HOK.out]
    cases ok with
    | true=>exact .inl rfl
    | false=>exact .inr (by have:¬ 1000≤l.length:=fun h=>hmany ⟨rfl,h⟩; omega))
   have HPUT:=zh hput
   have hlt:ok=true∨¬ (1000:Int)≤(l.length:Int):=by
    cases ok with
    | true=>exact .inl rfl
    | false=>exact .inr (by have:¬ 1000≤l.length:=fun h=>hmany ⟨rfl,h⟩; omega)
   clear hmany hput
   have Hcells:Hid (∀ wx,Below w4.heap.size w4 wx→wx.cell? ⟨w2.heap.size,0,none⟩=some (.int .i64 qk)∧wx.cell? ⟨w2.heap.size,1,none⟩=some (.string qn)∧wx.cell? ⟨w2.heap.size,2,none⟩=some (.slice A1 n1 c1)∧wx.cell? ⟨w2.heap.size,3,none⟩=some (.slice A2 n2 c2)):=zh (fun wx hb=>by
    have hbb:Blk w4 w2.heap.size 52 #[.int .i64 qk,.string qn,.slice A1 n1 c1,.slice A2 n2 c2]:=HBQ.out.below HBK.out (by omega)
    have r:=hbb.below hb hbb.lt
    have r0:=r.cell 0
    have r1:=r.cell 1
    have r2:=r.cell 2
    have r3:=r.cell 3
    simp only [zA,zB,zC] at r0 r1 r2 r3
    exact ⟨r0,r1,r2,r3⟩)
   have hb24:Below w2.heap.size w2 w4:=HBA.out.trans (HBK.out.mono HBA.out.size)
   have NE:Hid (∀ wx,Below w4.heap.size w4 wx→Calls Tryz.prog 36 #[.agg #[.int .i64 qk,.string qn,.slice A1 n1 c1,.slice A2 n2 c2]] wx (BsPost wx (needs q))):=zh (fun wx hb=>needs_any q (QTx.more HQ.out.tx (by decide)) wx _ _ _ _ ((HQA.out.grow hb24).grow hb) HQ.out.wq)
   have HB24:=zh hb24
   clear hb24
   cases ok with
   | true =>
    go_upto_region 11 with (fail)
    refine wp_region_grow_tail 7 (specOf [(5,⟨Option Addr × Nat,fun x=>.slice x.1 (needs q).length x.2,fun x wz=>wz.ownsRow w4.heap.size 9 1 (.slice x.1 (needs q).length x.2) (needs q).length (bsv (needs q))⟩)]) (fun wx=>Below w4.heap.size w4 wx) (fun w1 w2=>Below w1.heap.size w1 w2) (by kernel_rfl) (by kernel_rfl) (stab_cons (fun x wa wb hg h=>h.kept (grow_of_below hg none) (by cases hv:Value.ownBlock _ <;> simp)) (stab_nil)) ((Below.refl _ _).drew) ?_
    simp only [List.take_succ_cons,List.take_zero,List.drop_succ_cons,List.drop_zero]
    iterate 5
     refine grow_fix _ ?_ rfl (by rfl) (by rfl) (fun wx hC hD=>?_) ?_
     rotate_left
     ·have hSw:=Hcells.out wx hC
      go_simp
      all_goals with_reducible rfl
     try simp only [Act.put,zD,zE,zF]
    refine grow_give 6 _ rfl (by rfl) (by rfl) (fun wx hC hD=>?_) (fun x=>?_)
    ·refine give_enter (f:=?_) (args:=?_) ?_ ?_
     rotate_left 2
     ·have hSw:=Hcells.out wx hC
      go_simp
      all_goals first | with_reducible rfl | (refine ⟨?_,?_⟩ <;> with_reducible rfl)
     refine (NE.out wx hC).mono ?_
     rintro e w9 ⟨v9,rfl,ho9,hb9⟩
     obtain ⟨A9,c9,rfl,_⟩:=own_shape ho9
     exact ⟨_,rfl,hb9,hC.trans (hb9.mono hC.size),(A9,c9),rfl,own_mono ho9 hC.size⟩
    obtain ⟨A5,c5⟩:=x
    try simp only [Act.put,zD,zE,zF]
    refine grow_fix 7 ?_ rfl (by rfl) (by rfl) (fun wx hC hD=>?_) ?_
    rotate_left
    ·have hSw:=Hcells.out wx hC
     go_simp
     all_goals with_reducible rfl
    try simp only [Act.put,zD,zE,zF]
    refine grow_nil (fun w6 hC hF=>?_)
    have hrow:=upd_hit (hF 5) (by decide)
    have hC6:Below w.heap.size w w6:=HB4.out.trans (hC.mono hs4)
    have hX6:=H.out.below hC6
    have hkq:=HKK.out
    have hkv6:KpV w6 ⟨s,q,needs q⟩ (.agg #[.string s,.int .i64 qk,.string qn,.slice A1 n1 c1,.slice A2 n2 c2,.slice A5 (needs q).length c5]):=by
     refine ⟨_,_,_,_,A5,c5,rfl,?_,reads_sc (ReadsS.of_own hrow) (by decide)⟩
     exact qf_chg HF.out (O:=fun _=>False) (Chg.of_new (HB24.out.trans (hC.mono HB24.out.size))) (fun _ h=>h.elim)
    have CP:=zh (put_any i ⟨s,q,needs q⟩ _ HR.out ⟨HP.out,rfl⟩ hkv6 hX6 (by omega) hcn)
    have HC6:=zh hC6
    clear hF hC hrow hC6 hX6 hkq hkv6
    try simp only [List.drop_succ_cons,List.drop_zero]
    go_wp2_with fail
    refine CP.out.mono ?_
    rintro e w7 ⟨rfl,F1b,F2b,hX7,hC7,hO7⟩
    have FIN:Hid (PutsP w X cn M1 M2 F2 l i s (.returned (.int .i64 0)) w7):=zh ⟨0,_,F1b,F2b,HPUT.out,rfl,hX7,(Chg.of_new HC6.out).trans hC7 (fun x hx=>.inl hx),fun b hb=>(hO7 b hb).imp id (fun h=>by have:=HC6.out.size; omega)⟩
    clear hX7 hC7 hO7 CP
    go_wp2
    go_ret
    exact FIN.out
   | false =>
    have hlt2:¬ (1000:Int)≤(l.length:Int):=by
     rcases hlt with h | h
     ·cases h
     ·exact h
    clear hlt
    go_upto_region 11 with (fail)
    refine wp_region_grow_tail 7 (specOf [(5,⟨Option Addr × Nat,fun x=>.slice x.1 (needs q).length x.2,fun x wz=>wz.ownsRow w4.heap.size 9 1 (.slice x.1 (needs q).length x.2) (needs q).length (bsv (needs q))⟩)]) (fun wx=>Below w4.heap.size w4 wx) (fun w1 w2=>Below w1.heap.size w1 w2) (by kernel_rfl) (by kernel_rfl) (stab_cons (fun x wa wb hg h=>h.kept (grow_of_below hg none) (by cases hv:Value.ownBlock _ <;> simp)) (stab_nil)) ((Below.refl _ _).drew) ?_
    simp only [List.take_succ_cons,List.take_zero,List.drop_succ_cons,List.drop_zero]
    iterate 5
     refine grow_fix _ ?_ rfl (by rfl) (by rfl) (fun wx hC hD=>?_) ?_
     rotate_left
     ·have hSw:=Hcells.out wx hC
      go_simp
      all_goals with_reducible rfl
     try simp only [Act.put,zD,zE,zF]
    refine grow_give 6 _ rfl (by rfl) (by rfl) (fun wx hC hD=>?_) (fun x=>?_)
    ·refine give_enter (f:=?_) (args:=?_) ?_ ?_
     rotate_left 2
     ·have hSw:=Hcells.out wx hC
      go_simp
      all_goals first | with_reducible rfl | (refine ⟨?_,?_⟩ <;> with_reducible rfl)
     refine (NE.out wx hC).mono ?_
     rintro e w9 ⟨v9,rfl,ho9,hb9⟩
     obtain ⟨A9,c9,rfl,_⟩:=own_shape ho9
     exact ⟨_,rfl,hb9,hC.trans (hb9.mono hC.size),(A9,c9),rfl,own_mono ho9 hC.size⟩
    obtain ⟨A5,c5⟩:=x
    try simp only [Act.put,zD,zE,zF]
    refine grow_fix 7 ?_ rfl (by rfl) (by rfl) (fun wx hC hD=>?_) ?_
    rotate_left
    ·have hSw:=Hcells.out wx hC
     go_simp
     all_goals with_reducible rfl
    try simp only [Act.put,zD,zE,zF]
    refine grow_nil (fun w6 hC hF=>?_)
    have hrow:=upd_hit (hF 5) (by decide)
    have hC6:Below w.heap.size w w6:=HB4.out.trans (hC.mono hs4)
    have hX6:=H.out.below hC6
    have hkq:=HKK.out
    have hkv6:KpV w6 ⟨s,q,needs q⟩ (.agg #[.string s,.int .i64 qk,.string qn,.slice A1 n1 c1,.slice A2 n2 c2,.slice A5 (needs q).length c5]):=by
     refine ⟨_,_,_,_,A5,c5,rfl,?_,reads_sc (ReadsS.of_own hrow) (by decide)⟩
     exact qf_chg HF.out (O:=fun _=>False) (Chg.of_new (HB24.out.trans (hC.mono HB24.out.size))) (fun _ h=>h.elim)
    have CP:=zh (put_any i ⟨s,q,needs q⟩ _ HR.out ⟨HP.out,rfl⟩ hkv6 hX6 (by omega) hcn)
    have HC6:=zh hC6
    clear hF hC hrow hC6 hX6 hkq hkv6
    try simp only [List.drop_succ_cons,List.drop_zero]
    go_wp2_with fail
    refine CP.out.mono ?_
    rintro e w7 ⟨rfl,F1b,F2b,hX7,hC7,hO7⟩
    have FIN:Hid (PutsP w X cn M1 M2 F2 l i s (.returned (.int .i64 0)) w7):=zh ⟨0,_,F1b,F2b,HPUT.out,rfl,hX7,(Chg.of_new HC6.out).trans hC7 (fun x hx=>.inl hx),fun b hb=>(hO7 b hb).imp id (fun h=>by have:=HC6.out.size; omega)⟩
    clear hX7 hC7 hO7 CP
    go_wp2
    go_ret
    exact FIN.out
end
def dropsL (l:List (Int × Kp)) (ids:List Int):List (Int × Kp):=ids.foldl drop l
def cntD (l:List (Int × Kp)):List Int→Nat
 | []=>0
 | i :: ids=>(if (get l i).isSome=true then 1 else 0)+cntD (drop l i) ids
theorem dropsL_snoc (l:List (Int × Kp)) (ids:List Int) (i:Int):dropsL l (ids ++ [i])=drop (dropsL l ids) i:=by simp [dropsL]
theorem cntD_snoc:∀ (ids:List Int) (l:List (Int × Kp)) (i:Int),cntD l (ids ++ [i])=cntD l ids+(if (get (dropsL l ids) i).isSome=true then 1 else 0)
 | [],l,i=>by cases h:(get l i).isSome <;> simp [cntD,dropsL,h]
 | j :: ids,l,i=>by
  have ih:=cntD_snoc ids (drop l j) i
  rw [List.cons_append,cntD,cntD,ih]
  have e:dropsL l (j :: ids)=dropsL (drop l j) ids:=rfl
  rw [e]
  omega
theorem cntD_le:∀ (ids:List Int) (l:List (Int × Kp)),cntD l ids≤ids.length
 | [],l=>zG _
 | i :: ids,l=>by
  have ih:=cntD_le ids (drop l i)
  rw [cntD,List.length_cons]
  split <;> omega
theorem dropsL_few:∀ (ids:List Int) (l:List (Int × Kp)),UpI l→(dropsL l ids).length≤l.length∧UpI (dropsL l ids)
 | [],l,hu=>⟨zG _,hu⟩
 | i :: ids,l,hu=>by
  have ih:=dropsL_few ids (drop l i) (drop_up hu i)
  have:=drop_le hu i
  exact ⟨by have:=ih.1; have e:dropsL l (i :: ids)=dropsL (drop l i) ids:=rfl; rw [e]; omega,ih.2⟩
def DropsP (w:World) (X cn M1 M2:Nat) (F2:ByteArray→Option Nat) (l:List (Int × Kp)) (ids:List Int) (e:Ending) (w':World):Prop :=
 ∃ F1',e=.returned (.int .i64 (cntD l ids:Nat))∧AlX w' X cn M1 M2 F1' F2 (dropsL l ids)∧Chg (Own M1 M2 F2) w w'
set_option maxHeartbeats 1600000 in
theorem drops_any {w:World} {X cn M1 M2:Nat} {F1:Int→Option Value} {F2:ByteArray→Option Nat} {l:List (Int × Kp)} (A:Option Addr) (n c:Nat) (ids:List Int) (hR:ReadsS w (Sc w) 1 A n (itv ids)) (hn:ids.length=n) (hn2:n≤4294967296) (hw:∀ i∈ids,I64 i) (h:AlX w X cn M1 M2 F1 F2 l) :
  Calls Tryz.prog 12 #[.pointer (some ⟨X,0,none⟩),.slice A n c] w (DropsP w X cn M1 M2 F2 l ids):=by
 have HRd:=zh hR
 have H:=zh h
 have HW:=zh hw
 have HN:=zh hn
 clear hR h hw hn
 go_enter Tryz.func12,Tryz.ntmps12
 go_wp2
 go_loopw [5,10] (fun m i wr=>∃ (k:Nat) (F1':Int→Option Value),k≤n∧i=.int .i64 k∧m=.int .i64 (cntD l (ids.take k):Nat)∧Hid (AlX wr X cn M1 M2 F1' F2 (dropsL l (ids.take k)))∧Hid (Chg (Own M1 M2 F2) w wr)) (fun _ i _=>n - (intOf i).toNat)
 case atStart=>exact ⟨0,F1,Nat.zero_le _,rfl,rfl,zh (by simpa [dropsL] using H.out),zh (Chg.refl _ _)⟩
 case round =>
  obtain ⟨k,F1',hk,rfl,rfl,hX,hC⟩:=hrel
  by_cases hlt:k<n
  ·have hkl:k<ids.length:=by rw [HN.out]; exact hlt
   have hrd:=reads_chg HRd.out hC.out H.out.al.noSc
   obtain ⟨b,o,rfl,hbS,hcl⟩:=hrd.2 (by omega)
   have hc1:=hcl k _ (itv_get ids k hkl)
   have hts:ids.take (k+1)=ids.take k ++ [ids[k]]:=List.take_succ_eq_append_getElem hkl
   have hds:=dropsL_snoc l (ids.take k) ids[k]
   have hcs:=cntD_snoc (ids.take k) l ids[k]
   rw [← hts] at hds hcs
   have hwx:=HW.out ids[k] (List.getElem_mem hkl)
   have hcl2:=cntD_le (ids.take k) l
   rw [List.length_take] at hcl2
   have hcb:cntD l (ids.take k)≤k:=by omega
   have HDS:=zh hds
   have HCS:=zh hcs
   have c1:=none_no hX.out.c0
   have CD:=zh (drop_any ids[k] hwx hX.out)
   clear hrd hbS hcl hts hds hcs hwx hcl2
   generalize dropsL l (ids.take k)=m1 at *
   generalize cntD l (ids.take k)=t1 at *
   generalize ids[k]=x at *
   cases hs:(get m1 x).isSome with
   | true =>
    rw [hs] at HCS
    have hsF:Hid ((get m1 x).isSome=true):=zh hs
    clear hs
    go_wp2_with (first | (go_at_call 33; refine c1.mono ?_; rintro e w2 ⟨rfl,rfl⟩) | (go_at_call 37; refine CD.out.mono ?_; rintro e w3 ⟨rfl,F1b,hX3,hC3⟩; rw [hsF.out]; have HX3:=zh hX3; have HC3:=zh hC3; clear hX3 hC3))
    go_roundw
    case rel=>exact ⟨k+1,F1b,by omega,by go_num,by rw [HCS.out]; simp,by rw [HDS.out]; exact HX3,zh (hC.out.trans HC3.out (fun x hx=>.inl hx))⟩
    case measure=>simp [intOf]; omega
   | false =>
    rw [hs] at HCS
    have hsF:Hid ((get m1 x).isSome=false):=zh hs
    clear hs
    go_wp2_with (first | (go_at_call 33; refine c1.mono ?_; rintro e w2 ⟨rfl,rfl⟩) | (go_at_call 37; refine CD.out.mono ?_; rintro e w3 ⟨rfl,F1b,hX3,hC3⟩; rw [hsF.out]; have HX3:=zh hX3; have HC3:=zh hC3; clear hX3 hC3))
    go_roundw
    case rel=>exact ⟨k+1,F1b,by omega,by go_num,by rw [HCS.out]; simp,by rw [HDS.out]; exact HX3,zh (hC.out.trans HC3.out (fun x hx=>.inl hx))⟩
    case measure=>simp [intOf]; omega
  ·obtain rfl:k=n:=by omega
   have e1:ids.take k=ids:=by rw [← HN.out]; exact List.take_length
   rw [e1] at hX
   rw [e1]
   have FIN:Hid (DropsP w X cn M1 M2 F2 l ids (.returned (.int .i64 (cntD l ids:Nat))) wr):=zh ⟨F1',rfl,hX.out,hC.out⟩
   clear hX hC
   go_wp2
   go_ret
   exact FIN.out
end Go.Proofs.YtlfpfkallgkjdaaGreat.Al
end

section
namespace Go.Proofs.YtlfpfkallgkjdaaGreat.Al
open Go.RowKit Go.Maps Ut Tk Qy Qp Ev Mv
def Frm (n0:Nat) (w w':World):Prop:=Chg (fun b=>n0≤b∧Mo w b) w w'
theorem Frm.refl (n0:Nat) (w:World):Frm n0 w w:=Chg.refl _ _
theorem Frm.new {n0:Nat} {w w':World} (h:Below w.heap.size w w'):Frm n0 w w':=Chg.of_new h
theorem Frm.mo {n0:Nat} {w w':World} (h:Frm n0 w w') {b:Nat} (hb:b<w.heap.size) (hm:Mo w' b):Mo w b:=by
 refine Classical.byContradiction fun hn=>hn (hm.same (h.block b hb (fun e=>hn e.2)).symm)
theorem Frm.trans {n0:Nat} {w w1 w2:World} (h:Frm n0 w w1) (k:Frm n0 w1 w2):Frm n0 w w2:=Chg.trans h k (fun b hb=>by
 by_cases hl:b<w.heap.size
 ·exact .inl ⟨hb.1,h.mo hl hb.2⟩
 ·exact .inr (by omega))
theorem Frm.size {n0:Nat} {w w':World} (h:Frm n0 w w'):w.heap.size≤w'.heap.size:=Chg.size h
theorem Frm.noSc {n0:Nat} {w:World}:∀ b,(n0≤b∧Mo w b)→¬ Sc w b:=fun b hb=>hb.2.not
theorem Frm.blk {n0:Nat} {w w':World} {b:Nat} {T:TypeId} {cs:Array Value} (h:Frm n0 w w') (k:Blk w b T cs):Blk w' b T cs:=blk_chg k h Frm.noSc
theorem Frm.reads {n0:Nat} {w w':World} {k n:Nat} {A:Option Addr} {xs:List Value} (h:Frm n0 w w') (r:ReadsS w (Sc w) k A n xs):ReadsS w' (Sc w') k A n xs:=reads_chg r h Frm.noSc
theorem Frm.below {n0:Nat} {w w':World} (h:Frm n0 w w') (hn:n0≤w.heap.size):Below n0 w w':=Chg.below h hn (fun b hb=>hb.1)
theorem Frm.more {n0 n1:Nat} {w w':World} (h:Frm n1 w w') (hn:n0≤n1):Frm n0 w w':=Chg.mono h (fun b _ hb=>⟨by omega,hb.2⟩)
theorem frm_own {n0:Nat} {w w':World} {X cn M1 M2:Nat} {F1:Int→Option Value} {F2:ByteArray→Option Nat} {l:List (Int × Kp)} (h:AlX w X cn M1 M2 F1 F2 l) (ho:∀ b,Own M1 M2 F2 b→n0≤b) (hc:Chg (Own M1 M2 F2) w w'):Frm n0 w w' :=
 hc.mono (fun b _ hb=>⟨ho b hb,h.al.mo b hb⟩)
structure AlN (n0:Nat) (w:World) (X K:Nat) (l:List (Int × Kp)):Prop where
 ex:∃ cn M1 M2 F1 F2,cn≤K∧AlX w X cn M1 M2 F1 F2 l∧∀ b,Own M1 M2 F2 b→n0≤b
section
variable {n0:Nat} {w w':World} {X K:Nat} {l:List (Int × Kp)}
theorem AlN.new_below (h:AlN n0 w X K l) (hb:Below w.heap.size w w'):AlN n0 w' X K l:=by
 obtain ⟨cn,M1,M2,F1,F2,h1,h2,h3⟩:=h.ex
 exact ⟨cn,M1,M2,F1,F2,h1,h2.below hb,h3⟩
theorem AlN.base {n1:Nat} (h:AlN n0 w X K l) (hn:n1≤n0):AlN n1 w X K l:=by
 obtain ⟨cn,M1,M2,F1,F2,h1,h2,h3⟩:=h.ex
 exact ⟨cn,M1,M2,F1,F2,h1,h2,fun b hb=>by have:=h3 b hb; omega⟩
theorem AlN.up (h:AlN n0 w X K l):UpI l:=by
 obtain ⟨cn,M1,M2,F1,F2,h1,h2,h3⟩:=h.ex
 exact h2.al.up
theorem AlN.ok (h:AlN n0 w X K l):∀ x∈l,KOk x.2:=by
 obtain ⟨cn,M1,M2,F1,F2,h1,h2,h3⟩:=h.ex
 exact h2.al.ok
theorem AlN.rng (h:AlN n0 w X K l):∀ x∈l,0≤x.1∧x.1≤999999:=by
 obtain ⟨cn,M1,M2,F1,F2,h1,h2,h3⟩:=h.ex
 exact h2.al.rng
def PutN (n0:Nat) (w:World) (X K:Nat) (l:List (Int × Kp)) (i:Int) (s:ByteArray) (e:Ending) (w':World):Prop:=∃ E l',PutR l i s E l'∧e=.returned (.int .i64 E)∧AlN n0 w' X (K+1) l'∧Frm n0 w w'
theorem put_n (h:AlN n0 w X K l) (hn:n0≤w.heap.size) (i:Int) (hi:I64 i) (s:ByteArray) (hll:l.length≤1000) (hK:K≤4294967296) :
  Calls Tryz.prog 10 #[.pointer (some ⟨X,0,none⟩),.int .i64 i,.string s] w (PutN n0 w X K l i s):=by
 obtain ⟨cn,M1,M2,F1,F2,h1,h2,h3⟩:=h.ex
 refine (puts_any i hi s h2 hll (by omega)).mono ?_
 rintro e w' ⟨E,l',F1',F2',hp,rfl,hX,hc,ho⟩
 exact ⟨E,l',hp,rfl,⟨cn+1,M1,M2,F1',F2',by omega,hX,fun b hb=>by
  rcases ho b hb with h | h
  ·exact h3 b h
  ·omega⟩,frm_own h2 h3 hc⟩
def DropN (n0:Nat) (w:World) (X K:Nat) (l:List (Int × Kp)) (ids:List Int) (e:Ending) (w':World):Prop:=e=.returned (.int .i64 (cntD l ids:Nat))∧AlN n0 w' X K (dropsL l ids)∧Frm n0 w w'
theorem drop_n (h:AlN n0 w X K l) (A:Option Addr) (n c:Nat) (ids:List Int) (hR:ReadsS w (Sc w) 1 A n (itv ids)) (hn:ids.length=n) (hn2:n≤4294967296) (hw:∀ i∈ids,I64 i) :
  Calls Tryz.prog 12 #[.pointer (some ⟨X,0,none⟩),.slice A n c] w (DropN n0 w X K l ids):=by
 obtain ⟨cn,M1,M2,F1,F2,h1,h2,h3⟩:=h.ex
 refine (drops_any A n c ids hR hn hn2 hw h2).mono ?_
 rintro e w' ⟨F1',rfl,hX,hc⟩
 exact ⟨rfl,⟨cn,M1,M2,F1',F2,h1,hX,h3⟩,frm_own h2 h3 hc⟩
theorem len_n (h:AlN n0 w X K l):Calls Tryz.prog 11 #[.pointer (some ⟨X,0,none⟩)] w fun e w'=>e=.returned (.int .i64 (l.length:Nat))∧w'=w:=by
 obtain ⟨cn,M1,M2,F1,F2,h1,h2,h3⟩:=h.ex
 exact len_any h2
theorem query_n (h:AlN n0 w X K l) (i:Int) (hi:I64 i):Calls Tryz.prog 25 #[.pointer (some ⟨X,0,none⟩),.int .i64 i] w fun e w'=>e=.returned (.tuple #[.string (textOf (get l i)),.bool (get l i).isSome])∧Below w.heap.size w w':=by
 obtain ⟨cn,M1,M2,F1,F2,h1,h2,h3⟩:=h.ex
 exact query_any i hi h2
theorem ids_n (h:AlN n0 w X K l) (hll:l.length≤1000):Calls Tryz.prog 27 #[.pointer (some ⟨X,0,none⟩)] w (NumsP w (l.map (·.1))):=by
 obtain ⟨cn,M1,M2,F1,F2,h1,h2,h3⟩:=h.ex
 exact ids_any h2 (by omega)
end
def NewN (w:World) (e:Ending) (w':World):Prop:=∃ X,e=.returned (.pointer (some ⟨X,0,none⟩))∧AlN w.heap.size w' X 0 []∧Below w.heap.size w w'∧w.heap.size≤X
theorem new_n (w:World):Calls Tryz.prog 9 #[] w (NewN w):=by
 refine (new_any w).mono ?_
 rintro e w' ⟨X,M1,M2,rfl,hX,hb,h1,h2,h3⟩
 exact ⟨X,rfl,⟨0,M1,M2,_,_,zG _,hX,fun b hb=>by
  rcases hb with rfl | rfl | ⟨s,hs⟩
  ·exact h1
  ·exact h2
  ·cases hs⟩,hb,h3⟩
end Go.Proofs.YtlfpfkallgkjdaaGreat.Al
end

section
namespace Go.Proofs.YtlfpfkallgkjdaaGreat.Mx
open Go.RowKit Go.Maps Ut Tk Qy Ev Qp Mv
theorem basedL_mem:∀ (fs:List Fl) (b:Nat) (x:Nat × Fl),x∈basedL b fs→x.2∈fs
 | [],_,_,h=>by cases h
 | f :: fs,b,x,h=>by
  simp only [basedL,List.mem_cons] at h
  rcases h with rfl | h
  ·exact List.mem_cons_self ..
  ·exact List.mem_cons_of_mem _ (basedL_mem fs _ x h)
theorem raw_sz {fs:List Fl} (h:chkE fs=0):∀ y∈raw fs,y.1.size≤65:=by
 intro y hy
 unfold raw at hy
 obtain ⟨x,hx,hy⟩:=List.mem_flatMap.1 hy
 have hf:=(chkE_ok h).2 _ (basedL_mem fs 0 x hx)
 unfold rawO at hy
 obtain ⟨p,hp,rfl⟩:=List.mem_map.1 hy
 have hw:=List.fst_mem_of_mem_zipIdx hp
 have h1:=(words_word _ _ hw).2
 simp only [termT_size]
 omega
theorem raw_len {fs:List Fl} (h:chkE fs=0):(raw fs).length≤65536:=by
 have h1:=rawN_len fs (fun f hf=>((chkE_ok h).2 f hf).2.2) fs.length (zG _)
 rw [rawN_all] at h1
 have:=(chkE_ok h).1
 omega
theorem terms_sz {fs:List Fl} (h:chkE fs=0):∀ t∈addAll (raw fs),t.1.size≤65∧t.2.length≤65536:=by
 intro t ht
 refine ⟨?_,Nat.le_trans (addAll_pos _ t ht) (raw_len h)⟩
 obtain ⟨h1,h2⟩:=((isTm_all (raw fs)).mem t).1 ht
 rw [h2] at h1
 cases e:(raw fs).filter (fun y=>decide (y.1=t.1)) with
 | nil=>rw [e] at h1; exact absurd rfl h1
 | cons y l =>
  have hy:y∈(raw fs).filter (fun y=>decide (y.1=t.1)):=by rw [e]; exact List.mem_cons_self ..
  obtain ⟨h3,h4⟩:=List.mem_filter.1 hy
  rw [← of_decide_eq_true h4]
  exact raw_sz h y h3
theorem lawS:Keyed Tryz.prog 9:=string_keyed Tryz.underlying9
theorem keyS {s:ByteArray} (h:s.size≤maxLen):keyOf Tryz.prog 9 (litS.val s)=some (litS.lit s):=Go.WideMaps.keyOf_string_mk Tryz.underlying9 h
structure Put1 (n0:Nat) (T:TypeId) (k:Nat) (wB wx:World) (u v':Value) (n:Nat) (X:List Value):Prop where
 own:wx.ownsRow n0 T k v' n X
 gr:wB.grownBy wx u.ownBlock
 at_:v'.ownBlock=u.ownBlock∨v'.ownBlock=some wB.heap.size
end Go.Proofs.YtlfpfkallgkjdaaGreat.Mx
end
