/- group.Index: the walk. -/
import Derived.Test.YtdloacfoegjnmaaGreatPkGroupIndexesRow34
import Derived.Test.YtdloacfoegjnmaaGreatGrOfPk
import Derived.Test.YtdloacfoegjnmaaGreatPkGroupIndexesRow37
namespace Go.Proofs.YtdloacfoegjnmaaGreat.Gi
open Go.RowKit Go.Maps Go.Proofs.YtdloacfoegjnmaaGreat Go.Proofs.YtdloacfoegjnmaaGreat.Ut Go.Proofs.YtdloacfoegjnmaaGreat.Tk Go.Proofs.YtdloacfoegjnmaaGreat.Qy Go.Proofs.YtdloacfoegjnmaaGreat.Ev Go.Proofs.YtdloacfoegjnmaaGreat.Mx
set_option linter.unusedVariables false
set_option linter.unusedSimpArgs false
set_option maxRecDepth 40000

/-- What both sides tell. -/
def GPost (w : World) (name : ByteArray) (ds : List Dc) (e : Ending) (w' : World) : Prop :=
  ∃ (v : Value) (er : Int) (l : List Gr.Ct), e = .returned (.tuple #[v, .int .i64 er]) ∧ Gr.SlC w' v l ∧ l.length ≤ 1048576 ∧ (isN name.data.toList = true → er = 0 ∧ Gr.IsTab (Gr.tabOf (Gr.cntN name ds)) l) ∧ (isN name.data.toList = false → er = 1 ∧ l = []) ∧ Below w.heap.size w w'
theorem g_one {name : ByteArray} {ds : List Dc} {er er' : Int} {l l' : List Gr.Ct} (h1 : isN name.data.toList = true → er = 0 ∧ Gr.IsTab (Gr.tabOf (Gr.cntN name ds)) l) (h0 : isN name.data.toList = false → er = 1 ∧ l = [])
    (g1 : isN name.data.toList = true → er' = 0 ∧ Gr.IsTab (Gr.tabOf (Gr.cntN name ds)) l') (g0 : isN name.data.toList = false → er' = 1 ∧ l' = []) : l = l' ∧ er = er' := by
  cases hN : isN name.data.toList with
  | true =>
    obtain ⟨e1, t1⟩ := h1 hN
    obtain ⟨e2, t2⟩ := g1 hN
    exact ⟨t1.one t2, e1.trans e2.symm⟩
  | false =>
    obtain ⟨e1, t1⟩ := h0 hN
    obtain ⟨e2, t2⟩ := g0 hN
    exact ⟨t1.trans t2.symm, e1.trans e2.symm⟩
theorem doc_some {w w' : World} {o : Option Dc} {e : Ending} (h : DocPost w o e w') : ∃ (a b : Int) (A : Option Addr) (n c : Nat) (er : Int), e = .returned (.tuple #[.agg #[.int .i64 a, .int .i64 b, .slice A n c], .int .i64 er]) ∧ (er == 4) = false ∧ Below w.heap.size w w' := by
  cases o with
  | none => exact ⟨0, 0, none, 0, 0, 5, h.1, rfl, h.2⟩
  | some d =>
    obtain ⟨A, c, e, _, _, _, hb⟩ := h
    exact ⟨d.seq, d.at_, A, d.fs.length, c, 0, e, rfl, hb⟩
/-- The terms, in a row of the call's own. -/
def TermsW (w : World) (TT : List ByteArray) (e : Ending) (w' : World) : Prop := ∃ A c, e = .returned (.slice A TT.length c) ∧ w'.ownsRow w.heap.size 9 1 (.slice A TT.length c) TT.length (TT.map Value.string) ∧ Below w.heap.size w w'
theorem terms_own {w : World} {n0 X M cn : Nat} {v : Value} {F : ByteArray → Option Value} {O : Nat → Prop} {ds : List Dc} {sz lo hi : Int} (h : Idx w n0 X M cn v F O ds sz lo hi (postsT (ds.map (·.fs)))) (hcn : cn ≤ 4294967296) :
    Calls Tryz.prog 27 #[.pointer (some ⟨X, 0, none⟩)] w (TermsW w (termsR (ds.map (·.fs)))) := by
  obtain ⟨dsF, hdF⟩ : ∃ dsF, ds.map (·.fs) = dsF := ⟨_, rfl⟩
  rw [hdF] at h ⊢
  have HKEY : ∀ s, (F s).isSome = true ↔ s ∈ termsR dsF := fun s => by
    rw [(termsR_up _ dsF rfl).2 s, ← postsT_ne]
    constructor
    · intro hs
      cases hF : F s with
      | none => rw [hF] at hs; cases hs
      | some u => exact (h.rows s u hF).2
    · intro hs
      cases hF : F s with
      | none => exact absurd (h.nof s hF) hs
      | some u => rfl
  refine (termsX_any h hcn).mono ?_
  rintro e w2 ⟨lt, v2, hlt, hnd, rfl, ho2, hb2⟩
  have hsort := sort_terms hnd (termsR_up _ dsF rfl).1 (fun x => (hlt x).trans (HKEY x))
  have hll : lt.length = (termsR dsF).length := by
    have := congrArg List.length hsort
    simpa using this
  have e1 : ((bts lt).mergeSort fun x y => decide (x ≤ y)).map encStr = (termsR dsF).map Value.string := by
    unfold bts
    rw [hsort, List.map_map]
    rfl
  rw [e1, hll] at ho2
  obtain ⟨AT, cT, rfl, hRT, _⟩ := own_shape2 ho2
  exact ⟨AT, cT, rfl, ho2, hb2⟩
theorem row_rd {w : World} {base n c : Nat} {A : Option Addr} {l : List ByteArray} (h : w.ownsRow base 9 1 (.slice A n c) n (l.map Value.string)) (hl : l.length = n) {k : Nat} (hk : k < l.length) : ∃ b o, A = some ⟨b, o, none⟩ ∧ b < w.heap.size ∧ w.cell? ⟨b, o + k, none⟩ = some (.string l[k]) := by
  obtain ⟨A', c', e, hr, _⟩ := own_shape2 h
  injection e with e1 _ _
  subst e1
  obtain ⟨b, o, e, hb, hc⟩ := hr.2 (by omega)
  refine ⟨b, o, e, hb, ?_⟩
  have := hc k (.string l[k]) (by rw [List.getElem?_map, List.getElem?_eq_getElem hk]; rfl)
  simpa using this
theorem take_step {ds : List (List Fl)} {name : ByteArray} {TT : List ByteArray} {k : Nat} (h : k < TT.length) : (TT.take (k + 1)).foldl (stepI ds name) Gr.noT = stepI ds name ((TT.take k).foldl (stepI ds name) Gr.noT) TT[k] := by
  rw [List.take_succ_eq_append_getElem h, List.foldl_append]
  rfl
set_option maxHeartbeats 3200000 in
theorem gindex_any (name : ByteArray) {w : World} {n0 X M cn : Nat} {v : Value} {F : ByteArray → Option Value} {O : Nat → Prop} {ds : List Dc} {sz lo hi : Int} (h : Idx w n0 X M cn v F O ds sz lo hi (postsT (ds.map (·.fs)))) (hok : Dok ds) (hfew : ds.length ≤ 80) (hlit : Lit ds) (hcn : cn ≤ 4294967296) (hname : name.size ≤ 140737488351232) :
    Calls Tryz.prog 9 #[.string name, .pointer (some ⟨X, 0, none⟩)] w (GPost w name ds) := by
  have C0 := Lib.hid (docI_any 0 h hok (by omega))
  have HXL : Hid (∀ wx, Below w.heap.size w wx → Idx wx n0 X M cn v F (fun b => n0 ≤ b ∧ b < wx.heap.size) ds sz lo hi (postsT (ds.map (·.fs)))) := Lib.hid (fun wx hb => h.later hb)
  have hck : ∀ d ∈ ds, chkE d.fs = 0 := fun d hd => (hok d hd).1
  have hckF : ∀ fs ∈ ds.map (·.fs), chkE fs = 0 := fun fs hf => by
    obtain ⟨d, hd, rfl⟩ := List.mem_map.1 hf
    exact hck d hd
  have hTl := terms_lit _ (ds.map (·.fs)) rfl (fun fs hf => by
    obtain ⟨d, hd, rfl⟩ := List.mem_map.1 hf
    exact hlit d hd)
  rw [List.length_map] at hTl
  have HSZ := Lib.hid (termsR_sz (ds.map (·.fs)) hckF)
  have HMEM := Lib.hid (termsR_up _ (ds.map (·.fs)) rfl).2
  have HTM : Hid (∀ wx, Below w.heap.size w wx → Calls Tryz.prog 27 #[.pointer (some ⟨X, 0, none⟩)] wx (TermsW wx (termsR (ds.map (·.fs))))) := Lib.hid (fun wx hb => terms_own (h.later hb) hcn)
  have HTAB : Hid (isN name.data.toList = true → ∀ TT : List ByteArray, (∀ x, x ∈ TT ↔ ∃ fs ∈ ds.map (·.fs), (posOf fs x).isSome = true) → ∀ s, (TT.foldl (stepI (ds.map (·.fs)) name) Gr.noT) s = Gr.tabOf (Gr.cntN name ds) s) := Lib.hid (fun hN TT hT s => tab_terms hN hck hT s)
  have HPL : Hid (∀ t, (postsT (ds.map (·.fs)) t).length ≤ 80) := Lib.hid (fun t => by
    have h1 := postsT_le (ds.map (·.fs)) t
    rw [List.length_map] at h1
    omega)
  clear h hok hlit hck hckF
  obtain ⟨TT, hTT⟩ : ∃ TT, termsR (ds.map (·.fs)) = TT := ⟨_, rfl⟩
  obtain ⟨dsF, hdF⟩ : ∃ dsF, ds.map (·.fs) = dsF := ⟨_, rfl⟩
  simp only [hTT] at hTl HSZ HMEM HTM
  simp only [hdF] at HXL HMEM HTAB HPL
  clear hTT hdF
  unfold GPost
  go_enter Tryz.func9, Tryz.ntmps9
  go_wp2_with fail
  refine C0.out.mono ?_
  clear C0
  intro e w1 hD
  obtain ⟨da, db, dA, dn, dc, er, rfl, her, hb1⟩ := doc_some hD
  clear hD
  have hb2 : Below w1.heap.size w1 (w1.alloc (.cells #[.int .i64 da, .int .i64 db, .slice dA dn dc] 57)) := (Below.refl _ _).alloc (Nat.le_refl _) _
  have HB2 := Lib.hid (hb1.trans (hb2.mono hb1.size))
  clear hb1 hb2
  go_wp2_with fail
  generalize hw2 : (w1.alloc (.cells #[.int .i64 da, .int .i64 db, .slice dA dn dc] 57)) = w2 at *
  try rw [hw2]
  clear hw2
  refine (isName_anyB name w2 hname).mono ?_
  rintro e w3 ⟨rfl, hb3⟩
  have HB3 := Lib.hid (HB2.out.trans (hb3.mono HB2.out.size))
  clear hb3
  cases hN : isN name.data.toList with
  | false =>
    have HN := Lib.hid hN
    go_wp2
    go_ret2
    exact ⟨_, 1, [], rfl, Gr.SlC.nil _, Nat.zero_le _, fun h => (by rw [HN.out] at h; cases h), fun _ => ⟨rfl, rfl⟩, HB3.out⟩
  | true =>
    have HN := Lib.hid hN
    have hmk : (Instr.makeMap 77 none).run Tryz.prog w3 = .ok (.map (some w3.heap.size)) (w3.alloc (.map #[] 0)) := rfl
    have hb4 : Below w3.heap.size w3 (w3.alloc (.map #[] 0)) := (Below.refl _ _).alloc (Nat.le_refl _) _
    have HB4 := Lib.hid (HB3.out.trans (hb4.mono HB3.out.size))
    have hT0 : Gr.TabM (w3.alloc (.map #[] 0)) w3.heap.size 0 Gr.noT := ⟨_, World.ownsMap_made w3 Tryz.prog 9 (plainElem (H := Unit) Tryz.prog 3), Gr.TabD.none⟩
    have HT0 := Lib.hid hT0
    have C4 := Lib.hid (HTM.out _ HB4.out)
    clear hb4 hT0 hN
    go_wp2_with fail
    have hs3 := HB3.out.size
    have hz4 : (w3.alloc (.map #[] 0)).heap.size = w3.heap.size + 1 := by simp
    generalize hw4 : w3.alloc (.map #[] 0) = w4 at *
    try rw [hw4]
    clear hw4 hmk
    refine C4.out.mono ?_
    clear C4
    rintro e w5 ⟨AT, cT, rfl, ho5, hb5⟩
    have HB5 := Lib.hid (HB4.out.trans (hb5.mono HB4.out.size))
    have HO5 := Lib.hid ho5
    obtain ⟨D0, hD0, hTD0⟩ := HT0.out
    have HT5 : Hid (Gr.TabM w5 w3.heap.size 0 Gr.noT) := Lib.hid ⟨D0, hD0.kept (grow_of_below hb5 none) (by simp), hTD0⟩
    clear hb5 ho5 hD0 hTD0 HT0
    generalize hM : w3.heap.size = Mp at *
    go_wp2_with fail
    go_loopw [29] (fun i wr => ∃ k c : Nat, k ≤ TT.length ∧ c ≤ k ∧ i = .int .i64 (k : Nat) ∧ Hid (Gr.TabM wr Mp c ((TT.take k).foldl (stepI dsF name) Gr.noT)) ∧ Hid (Below w.heap.size w wr) ∧ Hid (wr.ownsRow w4.heap.size 9 1 (.slice AT TT.length cT) TT.length (TT.map Value.string))) (fun i _ => TT.length - (intOf i).toNat)
    case atStart => exact ⟨0, 0, Nat.zero_le _, Nat.le_refl _, rfl, HT5, HB5, HO5⟩
    case round =>
      obtain ⟨k, c, hk, hc, rfl, hT, hB, hO⟩ := hrel
      have hbs := hB.out.size
      by_cases hlt : k < TT.length
      · have hki : (k : Int) < (TT.length : Int) := by omega
        have hki0 : (0 : Int) ≤ (k : Int) := by omega
        obtain ⟨tb, tq, rfl, htb, d0⟩ := row_rd hO.out rfl hlt
        have HST := Lib.hid (take_step (ds := dsF) (name := name) hlt)
        have hss := HSZ.out _ (List.getElem_mem hlt)
        generalize TT[k] = t at *
        have C6 := Lib.hid (split_any t wr (by omega))
        by_cases hsp : splitOk t.data.toList = true
        · have e6 : splitV t = .tuple #[.string (bef t), .string (beh t), .bool true] := if_pos hsp
          rw [e6] at C6
          have hbeh := beh_size t
          by_cases hnm : bef t = name
          · have hbq : ((bef t).toList == name.toList) = true := by rw [hnm]; simp
            have HP : Hid (∀ wx, Below w.heap.size w wx → Calls Tryz.prog 29 #[.pointer (some ⟨X, 0, none⟩), .string t] wx (PostsP wx (postsT dsF t))) := Lib.hid (fun wx hb => posts_any t (by unfold maxLen; omega) (HXL.out wx hb) (by have := HPL.out t; omega))
            have hpl := HPL.out t
            have HST2 : Hid ((TT.take (k + 1)).foldl (stepI dsF name) Gr.noT = Gr.putT ((TT.take k).foldl (stepI dsF name) Gr.noT) (beh t) ((postsT dsF t).length : Nat)) := Lib.hid (by rw [HST.out]; exact if_pos ⟨hsp, hnm⟩)
            clear hsp hnm e6 HST
            generalize bef t = bf at *
            generalize beh t = bh at *
            go_wp2_with fail
            refine C6.out.mono ?_
            clear C6
            rintro e w6 ⟨rfl, hb6⟩
            have HB6 := Lib.hid (hB.out.trans (hb6.mono hbs))
            have C7 := Lib.hid (HP.out w6 HB6.out)
            have H6 := Lib.hid hb6
            clear hb6 HP
            generalize postsT dsF t = P at *
            go_wp2_with fail
            refine C7.out.mono ?_
            clear C7
            rintro e w7 ⟨v7, rfl, hp7, hb7⟩
            have H67 := Lib.hid (H6.out.trans (hb7.mono H6.out.size))
            have HB7 := Lib.hid (hB.out.trans (H67.out.mono hbs))
            have HO7 : Hid (w7.ownsRow w4.heap.size 9 1 (.slice (some ⟨tb, tq, none⟩) TT.length cT) TT.length (TT.map Value.string)) := Lib.hid (own_same hO.out (fun x hx => H67.out.block x (hO.out.lt x hx).2))
            obtain ⟨xs7, hx1, hx2, _⟩ := hp7.ex
            obtain ⟨A7, c7, rfl, _⟩ := own_shape2 hx2
            obtain ⟨D7, hD7, hT7⟩ := hT.out
            have hD7' := hD7.kept (grow_of_below H67.out none) (by simp)
            have hkey := Gr.keyW (s := bh) (by unfold maxLen; omega)
            have hwf := Gr.i64_ok ((P.length : Nat) : Int) (by omega) (by omega)
            have HT7 := Lib.hid hT7
            have hnlt : c < maxLen := by unfold maxLen; omega
            clear hp7 hb7 hx1 hx2 hT7 hD7
            go_wp2_with (first
              | (at_mapUpdate; refine wpList_mapUpdate_own _ rfl _ _ _ 77 rfl 9 3 Gr.lawS Tryz.underlying77 _ Mp _ _ rfl hD7' hnlt _ _ _ rfl rfl hkey _ [] (plainElem_int Tryz.underlying3 hwf) ?_; intro w8 hD8 hg8; go_frame)
              | go_in)
            have hT8 := HT7.out.put hD7'.isMap bh ((P.length : Nat) : Int)
            have HT8 : Hid (Gr.TabM w8 Mp (c + 1) ((TT.take (k + 1)).foldl (stepI dsF name) Gr.noT)) := Lib.hid ⟨_, hD8, by rw [HST2.out]; exact hT8⟩
            have HO8 := Lib.hid (own_same HO7.out (fun x hx => hg8.block x (HO7.out.lt x hx).2 (fun e => by injection e with e; have := (HO7.out.lt x hx).1; omega)))
            have HB8 := Lib.hid (HB7.out.grown hg8 HB7.out.size (fun j e => by injection e with e; omega))
            clear hT8 hD8 hg8 hD7'
            go_wp2
            go_roundw
            case rel => exact ⟨k + 1, c + 1, by omega, by omega, by go_num, HT8, HB8, HO8⟩
            case measure => simp [intOf]; omega
          · have hbq : ((bef t).toList == name.toList) = false := by
              rw [beq_eq_false_iff_ne]
              intro e
              exact hnm (toList_inj e)
            have HST2 : Hid ((TT.take (k + 1)).foldl (stepI dsF name) Gr.noT = (TT.take k).foldl (stepI dsF name) Gr.noT) := Lib.hid (by rw [HST.out]; exact if_neg (fun h => hnm h.2))
            clear hsp hnm e6 HST
            generalize bef t = bf at *
            generalize beh t = bh at *
            go_wp2_with fail
            refine C6.out.mono ?_
            clear C6
            rintro e w6 ⟨rfl, hb6⟩
            have HB6 := Lib.hid (hB.out.trans (hb6.mono hbs))
            obtain ⟨D7, hD7, hT7⟩ := hT.out
            have HT6 : Hid (Gr.TabM w6 Mp c ((TT.take (k + 1)).foldl (stepI dsF name) Gr.noT)) := Lib.hid ⟨D7, hD7.kept (grow_of_below hb6 none) (by simp), by rw [HST2.out]; exact hT7⟩
            have HO6 : Hid (w6.ownsRow w4.heap.size 9 1 (.slice (some ⟨tb, tq, none⟩) TT.length cT) TT.length (TT.map Value.string)) := Lib.hid (own_same hO.out (fun x hx => hb6.block x (hO.out.lt x hx).2))
            clear hb6 hD7 hT7
            go_wp2
            go_roundw
            case rel => exact ⟨k + 1, c, by omega, by omega, by go_num, HT6, HB6, HO6⟩
            case measure => simp [intOf]; omega
        · have e6 : splitV t = .tuple #[.string ByteArray.empty, .string ByteArray.empty, .bool false] := if_neg hsp
          rw [e6] at C6
          have HST2 : Hid ((TT.take (k + 1)).foldl (stepI dsF name) Gr.noT = (TT.take k).foldl (stepI dsF name) Gr.noT) := Lib.hid (by rw [HST.out]; exact if_neg (fun h => hsp h.1))
          clear hsp e6 HST
          go_wp2_with fail
          refine C6.out.mono ?_
          clear C6
          rintro e w6 ⟨rfl, hb6⟩
          have HB6 := Lib.hid (hB.out.trans (hb6.mono hbs))
          obtain ⟨D7, hD7, hT7⟩ := hT.out
          have HT6 : Hid (Gr.TabM w6 Mp c ((TT.take (k + 1)).foldl (stepI dsF name) Gr.noT)) := Lib.hid ⟨D7, hD7.kept (grow_of_below hb6 none) (by simp), by rw [HST2.out]; exact hT7⟩
          have HO6 : Hid (w6.ownsRow w4.heap.size 9 1 (.slice (some ⟨tb, tq, none⟩) TT.length cT) TT.length (TT.map Value.string)) := Lib.hid (own_same hO.out (fun x hx => hb6.block x (hO.out.lt x hx).2))
          clear hb6 hD7 hT7
          go_wp2
          go_roundw
          case rel => exact ⟨k + 1, c, by omega, by omega, by go_num, HT6, HB6, HO6⟩
          case measure => simp [intOf]; omega
      · obtain rfl : k = TT.length := by omega
        rw [List.take_length] at hT
        have C9 := Lib.hid (Gr.row_any Mp c _ wr hT.out (by omega))
        go_wp2_with fail
        refine C9.out.mono ?_
        clear C9
        rintro e w9 ⟨l, ht, hl, v9, rfl, ho9, hb9⟩
        have HFIN := Lib.hid (And.intro (ht.congr (fun s => HTAB.out HN.out TT HMEM.out s)) (And.intro hl (And.intro (Gr.SlC.of_own ho9) (hB.out.trans (hb9.mono hbs)))))
        clear ht ho9 hb9
        go_wp2
        go_ret2
        exact ⟨v9, 0, l, rfl, HFIN.out.2.2.1, by omega, fun _ => ⟨rfl, HFIN.out.1⟩, fun h => (by rw [HN.out] at h; cases h), HFIN.out.2.2.2⟩
theorem gindex_N (name : ByteArray) {w : World} {p : Option Addr} (h : NoIx w p) :
    Calls Tryz.prog 9 #[.string name, .pointer p] w fun e w' => e = .returned (.tuple #[.slice none 0 0, .int .i64 4]) ∧ Below w.heap.size w w' := by
  have C0 := Lib.hid (doc_N h 0)
  clear h
  go_enter Tryz.func9, Tryz.ntmps9
  go_wp2_with fail
  refine C0.out.mono ?_
  clear C0
  rintro e w1 ⟨rfl, hb1⟩
  have hb2 : Below w1.heap.size w1 (w1.alloc (.cells #[.int .i64 0, .int .i64 0, .slice none 0 0] 57)) := (Below.refl _ _).alloc (Nat.le_refl _) _
  have HB2 := Lib.hid (hb1.trans (hb2.mono hb1.size))
  clear hb1 hb2
  go_wp2
  go_ret2
  exact ⟨rfl, HB2.out⟩
end Go.Proofs.YtdloacfoegjnmaaGreat.Gi
