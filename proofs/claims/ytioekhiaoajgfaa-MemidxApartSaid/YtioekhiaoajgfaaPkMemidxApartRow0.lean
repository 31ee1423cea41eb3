/- Where a term stands in a doc alone: plain. (No program in sight.) -/
import Derived.Deep.RegionHeld3
import Derived.Test.YtioekhiaoajgfaaPkMemidxAddsRow26
import Derived.Test.YtioekhiaoajgfaaMxGPk
section
namespace Go.Proofs.Ytioekhiaoajgfaa.Mx
open Go.RowKit Go.Proofs.Ytioekhiaoajgfaa Go.Proofs.Ytioekhiaoajgfaa.Ut Go.Proofs.Ytioekhiaoajgfaa.Tk Go.Proofs.Ytioekhiaoajgfaa.Qy Go.Proofs.Ytioekhiaoajgfaa.Ev
set_option linter.unusedVariables false
set_option linter.unusedSimpArgs false

/-- The places that stand at a doc in a row. -/
def findP (l : List Po) (i : Int) : Option (List Nat) := (l.find? (fun p => decide ((p.1 : Int) = i))).map (·.2)
theorem postsT_lt : ∀ (ds : List (List Fl)) (s : ByteArray), ∀ p ∈ postsT ds s, p.1 < ds.length := by
  intro ds s p hp
  unfold postsT at hp
  obtain ⟨q, hq, h⟩ := List.mem_filterMap.1 hp
  have := List.mem_zipIdx hq
  obtain ⟨r, _, rfl⟩ := Option.map_eq_some_iff.1 h
  simp at this ⊢
  omega
/-- One post, or none. -/
def oneP (i : Nat) : Option (List Nat) → List Po
  | some q => [(i, q)]
  | none => []
theorem postsT_snoc2 (ds : List (List Fl)) (fs : List Fl) (s : ByteArray) : postsT (ds ++ [fs]) s = postsT ds s ++ oneP ds.length (posOf fs s) := by
  rw [postsT_snoc]
  cases posOf fs s <;> rfl
theorem find_posts (s : ByteArray) (i : Nat) : ∀ (n : Nat) (ds : List (List Fl)), ds.length = n → findP (postsT ds s) (i : Int) = ds[i]?.bind (fun fs => posOf fs s)
  | 0, ds, h => by
    obtain rfl := List.length_eq_zero_iff.1 h
    rfl
  | n + 1, ds, h => by
    obtain ⟨dl, d, rfl⟩ : ∃ dl d, ds = dl ++ [d] := by
      rcases List.eq_nil_or_concat ds with h0 | ⟨dl, d, h0⟩
      · subst h0; simp at h
      · exact ⟨dl, d, by rw [h0, List.concat_eq_append]⟩
    have hl : dl.length = n := by simpa using h
    have ih := find_posts s i n dl hl
    rw [postsT_snoc2]
    unfold findP at ih ⊢
    rw [List.find?_append]
    by_cases hi : i < dl.length
    · rw [List.getElem?_append_left hi]
      have hnone : (oneP dl.length (posOf d s)).find? (fun p : Po => decide ((p.1 : Int) = (i : Int))) = none := by
        cases posOf d s with
        | none => rfl
        | some q =>
          have : decide ((dl.length : Int) = (i : Int)) = false := decide_eq_false (by omega)
          simp only [oneP, List.find?_cons, this]
          rfl
      rw [hnone, Option.or_none]
      exact ih
    · have hnone : (postsT dl s).find? (fun p => decide ((p.1 : Int) = (i : Int))) = none := by
        rw [List.find?_eq_none]
        intro p hp
        have := postsT_lt dl s p hp
        simp only [decide_eq_true_eq]
        omega
      rw [hnone, Option.none_or, List.getElem?_append_right (by omega)]
      by_cases he : i = dl.length
      · subst he
        simp only [Nat.sub_self, List.getElem?_cons_zero, Option.bind_some]
        cases posOf d s with
        | none => rfl
        | some q => simp [oneP]
      · rw [List.getElem?_eq_none (by simp; omega)]
        cases posOf d s with
        | none => rfl
        | some q =>
          have : decide ((dl.length : Int) = (i : Int)) = false := decide_eq_false (by omega)
          simp only [oneP, List.find?_cons, this]
          rfl
theorem postsT_one (fs : List Fl) (s : ByteArray) : postsT [fs] s = oneP 0 (posOf fs s) := by
  have h := postsT_snoc2 [] fs s
  simpa [postsT_nil] using h
theorem postsT_le (ds : List (List Fl)) (s : ByteArray) : (postsT ds s).length ≤ ds.length := by
  unfold postsT
  refine Nat.le_trans (List.length_filterMap_le _ _) ?_
  simp
/-- A doc that an index took, added to another one alone. -/
def Small (ds : List Dc) : Prop := ∀ d ∈ ds, chkE d.fs = 0 ∧ szE d.fs ≤ 65536
theorem szL_mem : ∀ (l : List Evn), ∀ e ∈ l, szE e.2 ≤ szL l
  | [], e, h => (nomatch h)
  | a :: l, e, h => by
    simp only [szL]
    rcases List.mem_cons.1 h with rfl | h
    · omega
    · have := szL_mem l e h; omega
theorem addD_small {ds : List Dc} {seq : Int} {l : List Evn} (h : Small ds) : Small (addD ds seq l) := by
  unfold addD
  split
  · rename_i he
    have hc : chkB seq l = 0 := by
      unfold addE at he
      split at he
      · assumption
      · exact he
    have hk := chkB_ok hc
    intro d hd
    rcases List.mem_append.1 hd with hd | hd
    · exact h d hd
    · obtain ⟨i, hi, rfl⟩ := List.mem_iff_getElem.1 hd
      rw [mkD_len] at hi
      have hm := List.getElem_mem hi
      have h1 := szL_mem l _ hm
      simp only [mkD, List.getElem_mapIdx]
      exact ⟨hk.2.2.1 _ hm, by have := hk.2.2.2.1; omega⟩
  · exact h
theorem add_alone {d : Dc} (h1 : chkE d.fs = 0) (h2 : szE d.fs ≤ 65536) : addE [] 1 [(d.at_, d.fs)] = 0 ∧ addD [] 1 [(d.at_, d.fs)] = [⟨1, d.at_, d.fs⟩] := by
  have hc : chkB 1 [(d.at_, d.fs)] = 0 := by
    unfold chkB
    rw [if_neg (by simp), if_neg (by simp)]
    have hf : fstE [(d.at_, d.fs)] = 0 := by simp [fstE, h1]
    rw [if_pos hf]
    have hs : szL [(d.at_, d.fs)] = szE d.fs := by simp [szL]
    rw [hs, if_neg (by omega), if_neg (by simp)]
  have he : addE [] 1 [(d.at_, d.fs)] = 0 := by
    unfold addE
    rw [if_pos hc]
    simp
  refine ⟨he, ?_⟩
  unfold addD
  rw [if_pos he]
  simp [mkD]
end Go.Proofs.Ytioekhiaoajgfaa.Mx
end

section
/- loggiaref08.Find: the walk (seat j). -/
namespace Go.Proofs.Ytioekhiaoajgfaa.Mx
open Go.RowKit Go.Proofs.Ytioekhiaoajgfaa Go.Proofs.Ytioekhiaoajgfaa.Ut Go.Proofs.Ytioekhiaoajgfaa.Tk Go.Proofs.Ytioekhiaoajgfaa.Qy Go.Proofs.Ytioekhiaoajgfaa.Ev Go.Proofs.Ytioekhiaoajgfaa.Qp Go.Proofs.Ytioekhiaoajgfaa.Mv
set_option linter.unusedVariables false
set_option linter.unusedSimpArgs false
set_option maxRecDepth 20000

/-- What Find hands back. -/
def FindP (w : World) (o : Option (List Nat)) (e : Ending) (w' : World) : Prop := Below w.heap.size w w' ∧ match o with
  | none => e = .returned (.tuple #[.slice none 0 0, .bool false])
  | some q => ∃ F f, e = .returned (.tuple #[.slice F q.length f, .bool true]) ∧ Reads w' w'.heap.size 1 F q.length (nC q)
theorem findP_cons (p : Po) (l : List Po) (i : Int) : findP (p :: l) i = if (p.1 : Int) = i then some p.2 else findP l i := by
  unfold findP
  rw [List.find?_cons]
  by_cases h : (p.1 : Int) = i
  · simp [h]
  · simp [h]
set_option maxHeartbeats 1600000 in
theorem find_any (A : Option Addr) (n c : Nat) (l : List Po) (i : Int) (w : World) (h : PostRd w A n l) (hn : n ≤ 8796093021952) :
    Calls Try.prog 13 #[.slice A n c, .int .i64 i] w (FindP w (findP l i)) := by
  have H := Lib.hid h
  have hln := h.ln
  have hl1 : l.length ≤ n := by omega
  have hl2 : n ≤ l.length := by omega
  obtain ⟨r, hr⟩ : ∃ r, findP l i = r := ⟨_, rfl⟩
  rw [hr]
  have HR := Lib.hid hr
  clear h hln hr
  go_enter Try.func13, Try.ntmps13
  go_wp2
  go_loopw [6] (fun j wr => ∃ k : Nat, k ≤ l.length ∧ j = .int .i64 (k : Nat) ∧ Hid (findP (l.drop k) i = r) ∧ Hid (Below w.heap.size w wr)) (fun j _ => l.length - (intOf j).toNat)
  case atStart => exact ⟨0, Nat.zero_le _, rfl, HR, Lib.hid (Below.refl _ _)⟩
  case round =>
    obtain ⟨k, hk, rfl, hF, hB⟩ := hrel
    by_cases hlt : k < l.length
    · have hkz : (k : Int) < (n : Int) := by omega
      have hk0 : (0 : Int) ≤ (k : Int) := by omega
      obtain ⟨b, o, F, fn, f, rfl, hb, c0, c1, hr, hfn, _⟩ := (H.out.grow hB.out).at_ hlt
      subst hfn
      have hdr : findP (l.drop k) i = if (l[k].1 : Int) = i then some l[k].2 else findP (l.drop (k + 1)) i := by
        rw [List.drop_eq_getElem_cons hlt, findP_cons]
      have HDR := Lib.hid hdr
      have HRD := Lib.hid hr
      clear hdr hr
      generalize l[k].2 = q at *
      generalize l[k].1 = d at *
      by_cases he : (d : Int) = i
      · have HQ : Hid (r = some q) := Lib.hid (by rw [← hF.out, HDR.out, if_pos he])
        subst he
        go_wp2
        go_ret2
        refine ⟨hB.out, ?_⟩
        rw [HQ.out]
        exact ⟨F, f, rfl, HRD.out⟩
      · have HQ : Hid (findP (l.drop (k + 1)) i = r) := Lib.hid (by rw [← hF.out, HDR.out, if_neg he])
        have hez : ((d : Int) == i) = false := beq_eq_false_iff_ne.2 he
        go_wp2_with fail
        go_roundw
        case rel => exact ⟨k + 1, by omega, by go_num, HQ, hB⟩
        case measure => simp [intOf]; omega
    · obtain rfl : k = l.length := by omega
      have HQ : Hid (r = none) := Lib.hid (by rw [← hF.out, List.drop_length]; rfl)
      go_wp2
      go_ret2
      refine ⟨hB.out, ?_⟩
      rw [HQ.out]
      rfl
end Go.Proofs.Ytioekhiaoajgfaa.Mx
end

section
/- Regions that draw their order: another condition from a point on. -/
namespace Go.Proofs.Ytioekhiaoajgfaa
section
variable {P : Program} {ops : Array Oper} {Q : Exit → Act → World → Prop} {md : Region.Mode} {S S' : World → Prop}
theorem wpAnyH_weaken (hi : ∀ w, S' w → S w) : ∀ (fuel : Nat) (listed : Array Bool) (a : Act) (w : World), wpAnyH P md ops Q S' fuel listed a w → wpAnyH P md ops Q S fuel listed a w
  | 0, _, _, _, h => h
  | fuel + 1, _, _, _, h => ⟨h.1, fun i hr => wpOp_mono (fun a' w' h' => ⟨hi _ h'.1, wpAnyH_weaken hi fuel _ a' w' h'.2⟩) (h.2 i hr)⟩
/-- From here on S', which says more. -/
theorem wpAnyH_switch {fuel : Nat} {listed : Array Bool} {a : Act} {w : World} (hi : ∀ w, S' w → S w) (hS : S' w) (h : S' w → wpAnyH P md ops Q S' fuel listed a w) : wpAnyH P md ops Q S fuel listed a w :=
  wpAnyH_weaken hi _ _ _ _ (h hS)
/-- Take number i first; its slot is named. -/
theorem wpAnyH_takeD {i : Nat} (d : Tmp) {oi : Oper} {v : Value} {fuel : Nat} {listed : Array Bool} {a : Act} {w : World} (hi : ops[i]? = some oi) (hd : oi.dst = some d)
    (hs : Region.noSelect ops = true) (hf : Region.free md ops listed i = true) (hr : (Region.ready md ops listed).contains i = true)
    (hQ : ∀ c a w, Q (.panic c) (a.put (some d) v) w → Q (.panic c) a w) (hw : Region.wanted oi (yielded ops a.tmps) = true) (hy : ∀ w, S w → (execOp a.eval oi).run P w = .ok (.value v) w) (hS : S w)
    (h : wpAnyH P md ops Q S fuel (listed.setIfInBounds i true) (a.put (some d) v) w) : wpAnyH P md ops Q S (fuel + 1) listed a w := by
  rw [← hd] at h hQ
  exact wpAnyH_take hi hs hf hr hQ (.inl ⟨hw, hy⟩) hS h
end
end Go.Proofs.Ytioekhiaoajgfaa
end
