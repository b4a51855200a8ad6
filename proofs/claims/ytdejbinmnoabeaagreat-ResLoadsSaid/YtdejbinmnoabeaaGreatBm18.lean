/- Texts of this seat, put together: KvP, KvQ, RzS, RzM, RzB. -/
import Derived.Test.YtdejbinmnoabeaaGreatBm5
import Derived.Test.YtdejbinmnoabeaaGreatBm14
import Derived.Test.YtdejbinmnoabeaaGreatBm10
import Derived.Test.YtdejbinmnoabeaaGreatBm17
namespace Go.Mine
set_option linter.unusedVariables false
set_option linter.unusedSimpArgs false
theorem touch_vals (s : KS) (n k : Int) (al : Bool) : (s.touch n k al).2.vs = s.vs ∧ (s.touch n k al).2.th = s.th := by
  unfold KS.touch
  split
  · exact ⟨rfl, rfl⟩
  · split
    · exact ⟨rfl, rfl⟩
    · split <;> exact ⟨rfl, rfl⟩
theorem change_vals (s : KS) (n : Int) (c : Ch) : (s.change n c).2.vs = s.vs ∧ (s.change n c).2.th = s.th := by
  unfold KS.change
  simp only
  split <;> exact touch_vals _ _ _ _
theorem setV_get {s : KS} (h1 : s.vs.length = 16) (h2 : s.th.length = 16) {c : Ch} (hc : chOk c = true) (k : Nat) (hk : k < 16) :
    ((setV s c).vs.getD k 0, (setV s c).th.getD k false) = if c.key = (k : Int) then (c.val, c.kind == 1) else (s.vs.getD k 0, s.th.getD k false) := by
  have hck := (chOk_iff c).1 hc
  simp only [setV, List.getD_eq_getElem?_getD, List.getElem?_set]
  by_cases e : c.key = (k : Int)
  · have e' : c.key.toNat = k := by omega
    rw [if_pos e]
    simp [e', h1, h2, hk]
  · have e' : ¬ c.key.toNat = k := by omega
    rw [if_neg e]
    simp [e']
theorem setV_len (s : KS) (c : Ch) : (setV s c).vs.length = s.vs.length ∧ (setV s c).th.length = s.th.length := by simp [setV]
theorem setVs_get : ∀ (l : List Ch) (s : KS), s.vs.length = 16 → s.th.length = 16 → (∀ c ∈ l, chOk c = true) → (l.map (·.key)).Nodup → ∀ (k : Nat), k < 16 →
    ((l.foldl setV s).vs.getD k 0, (l.foldl setV s).th.getD k false) = match l.find? (fun c => c.key == (k : Int)) with | some c => (c.val, c.kind == 1) | none => (s.vs.getD k 0, s.th.getD k false)
  | [], s, _, _, _, _, k, hk => rfl
  | c :: cs, s, h1, h2, h3, h4, k, hk => by
    rw [List.map_cons, List.nodup_cons] at h4
    have hl := setV_len s c
    have ih := setVs_get cs (setV s c) (hl.1.trans h1) (hl.2.trans h2) (fun d hd => h3 d (by simp [hd])) h4.2 k hk
    rw [List.foldl_cons, ih, List.find?_cons]
    have hg := setV_get h1 h2 (h3 c (by simp)) k hk
    by_cases e : c.key = (k : Int)
    · have hn : cs.find? (fun c => c.key == (k : Int)) = none := by
        rw [List.find?_eq_none]
        intro d hd q
        have : d.key = (k : Int) := by simpa using q
        exact h4.1 (List.mem_map.2 ⟨d, hd, this.trans e.symm⟩)
      rw [hn]
      simp only [e, beq_self_eq_true]
      rw [hg, if_pos e]
    · have : (c.key == (k : Int)) = false := by simpa using e
      simp only [this]
      cases cs.find? (fun c => c.key == (k : Int)) with
      | some d => rfl
      | none => rw [hg, if_neg e]
theorem setVs_len : ∀ (l : List Ch) (s : KS), (l.foldl setV s).vs.length = s.vs.length ∧ (l.foldl setV s).th.length = s.th.length
  | [], s => ⟨rfl, rfl⟩
  | c :: cs, s => ⟨(setVs_len cs (setV s c)).1.trans (setV_len s c).1, (setVs_len cs (setV s c)).2.trans (setV_len s c).2⟩
theorem ext16 {a b : List Int} (ha : a.length = 16) (hb : b.length = 16) (h : ∀ k : Nat, k < 16 → a.getD k 0 = b.getD k 0) : a = b := by
  apply List.ext_getElem (by omega)
  intro i h1 h2
  have := h i (by omega)
  simpa [List.getD_eq_getElem?_getD, List.getElem?_eq_getElem h1, List.getElem?_eq_getElem h2] using this
theorem ext16b {a b : List Bool} (ha : a.length = 16) (hb : b.length = 16) (h : ∀ k : Nat, k < 16 → a.getD k false = b.getD k false) : a = b := by
  apply List.ext_getElem (by omega)
  intro i h1 h2
  have := h i (by omega)
  simpa [List.getD_eq_getElem?_getD, List.getElem?_eq_getElem h1, List.getElem?_eq_getElem h2] using this
def fillP (th : List Bool) (i : Nat) : List Nat := (List.range i).filter (fun k => th.getD k false)
def fillL (vs : List Int) (th : List Bool) (i : Nat) : List Ch := (fillP th i).map (fun (k : Nat) => (⟨1, (k : Int), vs.getD k 0⟩ : Ch))
structure Filled (vs : List Int) (th : List Bool) (i : Nat) (t : KS) : Prop where
  ok : t.Ok
  v : t.vs = List.replicate 16 0
  h : t.th = List.replicate 16 false
  lk : ∀ e ∈ t.lk, e.1.2 = 1 ∧ e.1.1 < (i : Int)
  ll : t.lk.length ≤ i
  ws : ∀ x ∈ t.ws, x.1 = 1 ∧ x.2.p = false
  l : t.listOf 1 = fillL vs th i
theorem Filled.start (vs : List Int) (th : List Bool) : Filled vs th 0 KS.new := ⟨KS.Ok.new, rfl, rfl, by simp [KS.new], by simp [KS.new], by simp [KS.new], rfl⟩
theorem fillP_true {th : List Bool} {i : Nat} (h : th.getD i false = true) : fillP th (i + 1) = fillP th i ++ [i] := by
  unfold fillP
  rw [List.range_succ, List.filter_append]
  simp [-List.getD_eq_getElem?_getD, h]
theorem fillP_false {th : List Bool} {i : Nat} (h : th.getD i false = false) : fillP th (i + 1) = fillP th i := by
  unfold fillP
  rw [List.range_succ, List.filter_append]
  simp [-List.getD_eq_getElem?_getD, h]
theorem Filled.skip {vs : List Int} {th : List Bool} {i : Nat} {t : KS} (h : Filled vs th i t) (ht : th.getD i false = false) : Filled vs th (i + 1) t :=
  ⟨h.ok, h.v, h.h, fun e he => ⟨(h.lk e he).1, by have := (h.lk e he).2; omega⟩, by have := h.ll; omega, h.ws, by rw [h.l]; unfold fillL; rw [fillP_false ht]⟩
theorem Filled.put {vs : List Int} {th : List Bool} {i : Nat} {t : KS} (h : Filled vs th i t) (hi : i < 16) (ht : th.getD i false = true) :
    (t.change 1 ⟨1, (i : Int), vs.getD i 0⟩).1 = 0 ∧ Filled vs th (i + 1) (t.change 1 ⟨1, (i : Int), vs.getD i 0⟩).2 := by
  have hno : t.lk.any (confA 1 (i : Int) true ((aget ((i : Int), 1) t.lk).getD false)) = false := by
    rw [List.any_eq_false]
    intro e he hc
    simp [confA, (h.lk e he).1] at hc
  have hg : aget ((i : Int), 1) t.lk = none := by
    rw [aget_none]
    intro e he q
    have := (h.lk e he).2
    rw [q] at this
    simp at this
  have htk : takeA t.lk 1 (i : Int) true = (0, t.lk ++ [(((i : Int), 1), true)]) := by
    unfold takeA
    have := h.ll
    rw [if_neg (by simp [hno]), if_neg (by simp [hg]; omega), hg]
    simp [aput, hg]
  have hp : ((aget 1 t.ws).map (·.p)).getD false = false := by
    cases hq : aget 1 t.ws with
    | none => rfl
    | some v => exact (h.ws _ (aget_mem hq)).2
  have htd : t.touch 1 (i : Int) true = (0, ⟨t.vs, t.th, if (aget 1 t.ws).isSome then t.ws else t.ws ++ [(1, ⟨[], false⟩)], t.lk ++ [(((i : Int), 1), true)]⟩) := by
    unfold KS.touch
    rw [if_neg (by omega), if_neg (by rw [hp]; simp), htk, if_neg (by simp)]
  have h0 : (t.touch 1 (i : Int) true).1 = 0 := by rw [htd]
  have hch : (t.change 1 ⟨1, (i : Int), vs.getD i 0⟩) = (0, { (t.touch 1 (i : Int) true).2 with ws := aput 1 ⟨putCh ⟨1, (i : Int), vs.getD i 0⟩ ((t.touch 1 (i : Int) true).2.listOf 1), false⟩ (t.touch 1 (i : Int) true).2.ws }) := by
    unfold KS.change
    simp only
    rw [if_neg (by simp [h0])]
  have hlt := touch_list h0
  have hli : (t.touch 1 (i : Int) true).2.listOf 1 = fillL vs th i := by
    unfold KS.listOf
    rw [hlt]
    exact h.l
  have hok := h.ok.change 1 ⟨1, (i : Int), vs.getD i 0⟩ (.inl rfl)
  have hokt := h.ok.touch 1 (i : Int) true
  have hnone : chAt (i : Int) (fillL vs th i) = none := by
    unfold chAt
    rw [List.findIdx?_eq_none_iff]
    intro x hx
    simp only [fillL, fillP, List.mem_map, List.mem_filter, List.mem_range] at hx
    obtain ⟨k, ⟨hk, _⟩, rfl⟩ := hx
    simp; omega
  have hput : putCh ⟨1, (i : Int), vs.getD i 0⟩ (fillL vs th i) = fillL vs th (i + 1) := by
    unfold putCh
    rw [show (⟨1, (i : Int), vs.getD i 0⟩ : Ch).key = (i : Int) from rfl, hnone]
    unfold fillL
    rw [fillP_true ht, List.map_append]
    rfl
  refine ⟨by rw [hch], hok, ?_, ?_, ?_, ?_, ?_, ?_⟩
  · rw [(change_vals _ _ _).1]; exact h.v
  · rw [(change_vals _ _ _).2]; exact h.h
  · rw [hch, htd]
    intro e he
    rcases List.mem_append.1 he with he | he
    · exact ⟨(h.lk e he).1, by have := (h.lk e he).2; omega⟩
    · obtain rfl := List.mem_singleton.1 he
      exact ⟨rfl, by show (i : Int) < ((i + 1 : Nat) : Int); omega⟩
  · rw [hch, htd]
    have := h.ll
    simp; omega
  · rw [hch]
    intro x hx
    rcases mem_aput hx with rfl | ⟨hx, hn⟩
    · exact ⟨rfl, rfl⟩
    · rw [htd] at hx
      exfalso
      simp only at hx
      split at hx
      · exact hn (h.ws x hx).1
      · rcases List.mem_append.1 hx with hx | hx
        · exact hn (h.ws x hx).1
        · obtain rfl := List.mem_singleton.1 hx; exact hn rfl
  · have e : aget 1 (t.change 1 ⟨1, (i : Int), vs.getD i 0⟩).2.ws = some ⟨fillL vs th (i + 1), false⟩ := by
      rw [hch]
      show aget 1 (aput 1 ⟨putCh ⟨1, (i : Int), vs.getD i 0⟩ ((t.touch 1 (i : Int) true).2.listOf 1), false⟩ (t.touch 1 (i : Int) true).2.ws) = _
      rw [aget_put_self _ _ hokt.keys, hli, hput]
    show ((aget 1 (t.change 1 ⟨1, (i : Int), vs.getD i 0⟩).2.ws).map (·.l)).getD [] = _
    rw [e]
    rfl
theorem fill_find {vs : List Int} {th : List Bool} (k : Nat) (hk : k < 16) : (fillL vs th 16).find? (fun c => c.key == (k : Int)) = if th.getD k false then some ⟨1, (k : Int), vs.getD k 0⟩ else none := by
  cases hq : (fillL vs th 16).find? (fun c => c.key == (k : Int)) with
  | some c =>
    have h1 := List.mem_of_find?_eq_some hq
    have h2 := List.find?_some hq
    simp only [fillL, fillP, List.mem_map, List.mem_filter, List.mem_range] at h1
    obtain ⟨j, ⟨hj, hj2⟩, rfl⟩ := h1
    have : j = k := by have : (j : Int) = (k : Int) := by simpa using h2
                       omega
    subst this
    rw [if_pos hj2]
  | none =>
    rw [List.find?_eq_none] at hq
    split
    · rename_i ht
      exact absurd (by simp) (hq ⟨1, (k : Int), vs.getD k 0⟩ (by simp only [fillL, fillP, List.mem_map, List.mem_filter, List.mem_range]; exact ⟨k, ⟨hk, ht⟩, rfl⟩))
    · rfl
theorem Filled.commit {s t : KS} (hs : s.Ok) (h : Filled s.vs s.th 16 t) : t.commit 1 = (0, ⟨s.vs, s.th, [], []⟩) := by
  have hrw : RW (t.listOf 1) := h.ok.listOf 1
  have hg := setVs_get (t.listOf 1) t h.ok.lv h.ok.lt hrw.1 hrw.2
  have hl := setVs_len (t.listOf 1) t
  have hk := setVs_keep (t.listOf 1) t
  have key : ∀ k : Nat, k < 16 → ((t.listOf 1).foldl setV t).vs.getD k 0 = s.vs.getD k 0 ∧ ((t.listOf 1).foldl setV t).th.getD k false = s.th.getD k false := by
    intro k hk16
    have h1 := hg k hk16
    rw [h.l, fill_find k hk16] at h1
    rw [h.l]
    cases ht : s.th.getD k false
    · rw [ht] at h1
      simp only [Bool.false_eq_true, if_false, h.v, h.h] at h1
      have h2 := congrArg Prod.fst h1
      have h3 := congrArg Prod.snd h1
      simp only at h2 h3
      rw [h2, h3, hs.z k ht]
      rw [List.getD_eq_getElem?_getD, List.getD_eq_getElem?_getD, List.getElem?_replicate, List.getElem?_replicate]
      rw [if_pos hk16, if_pos hk16]
      exact ⟨rfl, rfl⟩
    · rw [ht] at h1
      simp only [if_true] at h1
      have h2 := congrArg Prod.fst h1
      have h3 := congrArg Prod.snd h1
      simp only at h2 h3
      exact ⟨h2, h3⟩
  have ev : ((t.listOf 1).foldl setV t).vs = s.vs := ext16 (hl.1.trans h.ok.lv) hs.lv (fun k hk => (key k hk).1)
  have eh : ((t.listOf 1).foldl setV t).th = s.th := ext16b (hl.2.trans h.ok.lt) hs.lt (fun k hk => (key k hk).2)
  rw [commit_do (by omega)]
  unfold KS.gone
  rw [ev, eh, hk.1, hk.2]
  have e1 : adel 1 t.ws = [] := by
    unfold adel
    rw [List.filter_eq_nil_iff]
    intro x hx
    simp [(h.ws x hx).1]
  have e2 : dropA 1 t.lk = [] := by
    unfold dropA
    rw [List.filter_eq_nil_iff]
    intro x hx
    simp [ownA, (h.lk x hx).1]
  rw [e1, e2]
end Go.Mine
namespace Go.Mine
set_option linter.unusedVariables false
set_option linter.unusedSimpArgs false
structure Agree (L : List (Int × Int)) (s : KS) : Prop where
  nd : (L.map (·.1)).Nodup
  ks : ∀ e ∈ L, 0 ≤ e.1 ∧ e.1 < 16
  eq : ∀ k : Nat, k < 16 → dval L k = (s.vs.getD k 0, s.th.getD k false)
theorem Agree.len {L : List (Int × Int)} {s : KS} (h : Agree L s) : L.length ≤ 16 := by
  have := nodup_lt 16 _ h.nd (fun x hx => by
    obtain ⟨e, he, rfl⟩ := List.mem_map.1 hx
    exact h.ks e he)
  simpa using this
theorem Agree.same {L : List (Int × Int)} {s t : KS} (h : Agree L s) (h1 : t.vs = s.vs) (h2 : t.th = s.th) : Agree L t :=
  ⟨h.nd, h.ks, fun k hk => by rw [h1, h2]; exact h.eq k hk⟩
theorem Agree.new : Agree [] KS.new := ⟨List.nodup_nil, fun e he => absurd he List.not_mem_nil, fun k hk => by
  show (0, false) = ((List.replicate 16 (0 : Int)).getD k 0, (List.replicate 16 false).getD k false)
  simp only [List.getD_eq_getElem?_getD, List.getElem?_replicate, if_pos hk]
  rfl⟩
theorem find_drop (L : List (Int × Int)) (c k : Int) : (L.filter (fun e => e.1 != c)).find? (fun e => e.1 == k) = if c = k then none else L.find? (fun e => e.1 == k) := by
  split
  · rename_i h
    subst h
    rw [List.find?_eq_none]
    intro e he
    have := (List.mem_filter.1 he).2
    simpa using this
  · rename_i h
    induction L with
    | nil => rfl
    | cons e L ih =>
      rw [List.filter_cons]
      by_cases hc : e.1 = c
      · have h1 : (e.1 != c) = false := by simp [hc]
        have h2 : (e.1 == k) = false := by simp [hc, h]
        rw [h1, if_neg (by decide), ih, List.find?_cons, h2]
      · have h1 : (e.1 != c) = true := by simp [hc]
        rw [h1, if_pos rfl, List.find?_cons, List.find?_cons, ih]
theorem dval_set (L : List (Int × Int)) (c : Ch) (hc : chOk c = true) (k : Int) : dval (setD L c) k = if c.key = k then (c.val, c.kind == 1) else dval L k := by
  have hck := (chOk_iff c).1 hc
  unfold setD dval
  rcases hck.1 with q | ⟨q, q2⟩
  · rw [q]
    simp only [beq_self_eq_true, if_true]
    rw [List.find?_append, find_drop]
    by_cases e : c.key = k
    · rw [if_pos e, if_pos e]
      simp [e]
    · rw [if_neg e, if_neg e]
      have : List.find? (fun e => e.1 == k) [(c.key, c.val)] = none := by simp [e]
      rw [this]
      cases L.find? (fun e => e.1 == k) <;> rfl
  · rw [q]
    have : ((2 : Int) == 1) = false := by decide
    simp only [this, Bool.false_eq_true, if_false]
    rw [find_drop]
    by_cases e : c.key = k
    · rw [if_pos e, if_pos e, q2]
    · rw [if_neg e, if_neg e]
theorem Agree.set {L : List (Int × Int)} {s : KS} (h : Agree L s) (h1 : s.vs.length = 16) (h2 : s.th.length = 16) {c : Ch} (hc : chOk c = true) : Agree (setD L c) (setV s c) := by
  have hck := (chOk_iff c).1 hc
  have hf : ((L.filter (fun e => e.1 != c.key)).map (·.1)).Nodup := h.nd.sublist (List.filter_sublist.map _)
  have hno : c.key ∉ (L.filter (fun e => e.1 != c.key)).map (·.1) := by
    intro q
    obtain ⟨e, he, hk⟩ := List.mem_map.1 q
    have := (List.mem_filter.1 he).2
    rw [hk] at this
    simp at this
  refine ⟨?_, ?_, fun k hk => ?_⟩
  · unfold setD
    split
    · rw [List.map_append, List.nodup_append]
      refine ⟨hf, by simp, ?_⟩
      intro a ha b hb
      simp at hb
      rw [hb]
      rintro rfl
      exact hno ha
    · exact hf
  · intro e he
    unfold setD at he
    split at he
    · rcases List.mem_append.1 he with q | q
      · exact h.ks e (List.mem_filter.1 q).1
      · obtain rfl := List.mem_singleton.1 q
        exact hck.2
    · exact h.ks e (List.mem_filter.1 he).1
  · rw [dval_set L c hc, setV_get h1 h2 hc k hk, h.eq k hk]
theorem Agree.sets : ∀ (l : List Ch) {L : List (Int × Int)} {s : KS}, Agree L s → s.vs.length = 16 → s.th.length = 16 → (∀ c ∈ l, chOk c = true) → Agree (l.foldl setD L) (l.foldl setV s)
  | [], _, _, h, _, _, _ => h
  | c :: cs, L, s, h, h1, h2, hc => Agree.sets cs (h.set h1 h2 (hc c (by simp))) ((setV_len s c).1.trans h1) ((setV_len s c).2.trans h2) (fun d hd => hc d (by simp [hd]))
theorem Agree.commit {L : List (Int × Int)} {s : KS} (h : Agree L s) (hs : s.Ok) (n : Int) : Agree (commitD L s n) (s.commit n).2 := by
  unfold commitD KS.commit
  split
  · exact h
  · exact (Agree.sets _ h hs.lv hs.lt (hs.listOf n).1).same rfl rfl
theorem Agree.value {L : List (Int × Int)} {s : KS} (h : Agree L s) (k : Int) : s.value k = dval L k := by
  unfold KS.value
  split
  · rename_i hk
    have : L.find? (fun e => e.1 == k) = none := by
      rw [List.find?_eq_none]
      intro e he q
      have := h.ks e he
      have : e.1 = k := by simpa using q
      omega
    unfold dval
    rw [this]
  · rename_i hk
    obtain ⟨m, hm⟩ := Int.eq_ofNat_of_zero_le (show 0 ≤ k by omega)
    subst hm
    exact (h.eq m (by omega)).symm
theorem touch_vt (s : KS) (n k : Int) (al : Bool) : (s.touch n k al).2.vs = s.vs ∧ (s.touch n k al).2.th = s.th := by
  unfold KS.touch
  split
  · exact ⟨rfl, rfl⟩
  · split
    · exact ⟨rfl, rfl⟩
    · split <;> exact ⟨rfl, rfl⟩
theorem Agree.get {L : List (Int × Int)} {s : KS} (h : Agree L s) (n k : Int) : dget L s n k = (s.get n k).1 := by
  unfold dget KS.get
  simp only
  by_cases hz : (s.touch n k false).1 = 0
  · rw [if_neg (by simp [hz]), if_neg (by simp [hz])]
    have ht := touch_zero hz
    have hv := touch_vt s n k false
    have hd := (h.same hv.1 hv.2).value k
    rw [KS.value, if_neg (by omega)] at hd
    unfold seenV
    cases ((s.touch n k false).2.listOf n).find? (fun c => c.key == k) with
    | some c => rfl
    | none => simp only; rw [← hd]
  · rw [if_pos hz, if_pos hz]
theorem get_st (s : KS) (n k : Int) : (s.get n k).2 = (s.touch n k false).2 := by
  unfold KS.get
  simp only
  split <;> rfl
theorem change_vt (s : KS) (n : Int) (c : Ch) : (s.change n c).2.vs = s.vs ∧ (s.change n c).2.th = s.th := by
  unfold KS.change
  simp only
  split <;> exact touch_vt s n c.key true
theorem prepare_vt (s : KS) (n : Int) : (s.prepare n).2.vs = s.vs ∧ (s.prepare n).2.th = s.th := by
  unfold KS.prepare
  split
  · exact ⟨rfl, rfl⟩
  · cases aget n s.ws with
    | none => exact ⟨rfl, rfl⟩
    | some v =>
      simp only
      split
      · exact ⟨rfl, rfl⟩
      · split <;> exact ⟨rfl, rfl⟩
theorem restore_vt (s : KS) (n : Int) (l : List Ch) : (s.restore n l).2.vs = s.vs ∧ (s.restore n l).2.th = s.th := by
  unfold KS.restore
  split
  · exact ⟨rfl, rfl⟩
  · split
    · exact ⟨rfl, rfl⟩
    · split
      · exact ⟨rfl, rfl⟩
      · split <;> exact ⟨rfl, rfl⟩
theorem aput_len {n : Int} {v u : KW} {ws : List (Int × KW)} (h : aget n ws = some u) : (aput n v ws).length = ws.length := by
  unfold aput
  rw [h]
  simp
theorem change_len (s : KS) (n : Int) (c : Ch) : (s.change n c).2.ws.length ≤ s.ws.length + 1 := by
  have ht := touch_len s n c.key true
  unfold KS.change
  simp only
  split
  · exact ht
  · rename_i h0
    have h0' : (s.touch n c.key true).1 = 0 := by simpa using h0
    show (aput n _ (s.touch n c.key true).2.ws).length ≤ _
    rw [aput_len (touch_list h0')]
    exact ht
theorem gone_len (s : KS) (n : Int) : (s.gone n).ws.length ≤ s.ws.length := List.length_filter_le _ _
theorem setVs_ws : ∀ (l : List Ch) (s : KS), (l.foldl setV s).ws = s.ws
  | [], _ => rfl
  | c :: cs, s => setVs_ws cs (setV s c)
end Go.Mine
namespace Go.Proofs.YtdejbinmnoabeaaGreat.Q
open Go.RowKit Go.Mine Go.Proofs.YtdejbinmnoabeaaGreatW.PrintWords
set_option linter.unusedVariables false
set_option linter.unusedSimpArgs false
set_option maxRecDepth 100000 in
set_option maxHeartbeats 2000000 in
theorem same_any (A A' : Option Addr) (l : List Int) (c c' B : Nat) (w : World) (h : UAt w B A l) (h' : UAt w B A' l) (hn : l.length ≤ 1000000) :
    Calls Tryz.prog 41 #[.slice A l.length c, .slice A' l.length c'] w fun e w' => e = .returned (.bool true) ∧ ∃ q, w' = w.drewN q := by
  have H := hid h
  have H' := hid h'
  clear h h'
  go_enter Tryz.func41, Tryz.ntmps41
  go_wp2_with fail
  go_loopg [5] (l.length + 1) (fun m v wr => ∃ i : Nat, v = .int .i64 i ∧ i ≤ l.length ∧ m = l.length + 1 - i ∧ ∃ q, wr = w.drewN q)
  case atStart => exact ⟨0, rfl, Nat.zero_le _, rfl, 0, rfl⟩
  case round =>
    obtain ⟨i, rfl, hi, hm, q, hq⟩ := hrel
    have HN := hid hm
    clear hm
    by_cases h1 : i < l.length
    · obtain ⟨y, hy⟩ : ∃ y, l[i]? = some y := ⟨_, List.getElem?_eq_getElem h1⟩
      obtain ⟨b, off, rfl, _, hc⟩ := H.out i y hy
      obtain ⟨b', off', rfl, _, hc'⟩ := H'.out i y hy
      have k0 : wr.cell? ⟨b, off + i, none⟩ = some (.int .u64 y) := by rw [hq]; have := hc 0 _ rfl; simpa using this
      have k1 : wr.cell? ⟨b', off' + i, none⟩ = some (.int .u64 y) := by rw [hq]; have := hc' 0 _ rfl; simpa using this
      have dy : (y != y) = false := by simp
      have HQ := hid hq
      clear hc hc' hy hq
      go_wp2_with fail
      go_quiet (fail)
      go_wp2_with fail
      go_roundg (l.length + 1 - (i + 1))
      case measure => rw [HN.out]; omega
      case rel => exact ⟨i + 1, by go_num, by omega, rfl, _, by rw [HQ.out]; exact drewN_two _ _ _⟩
    · go_wp2_with fail
      go_ret
      first | exact ⟨rfl, q, rfl⟩ | exact ⟨rfl, q, hq⟩
theorem UAt.up2 {w w' : World} {A : Option Addr} {l : List Int} (h : UAt w w.heap.size A l) (hb : Below w.heap.size w w') : UAt w' w'.heap.size A l := (RowAt.below h hb).up hb.size
set_option maxRecDepth 100000 in
set_option maxHeartbeats 2000000 in
theorem samech_any (A A' : Option Addr) (l : List Ch) (c c' B : Nat) (w : World) (h : ChAt w B A l) (h' : ChAt w B A' l) (hn : l.length ≤ 1000000) :
    Calls Tryz.prog 22 #[.slice A l.length c, .slice A' l.length c'] w fun e w' => e = .returned (.bool true) ∧ ∃ q, w' = w.drewN q := by
  have H := hid h
  have H' := hid h'
  clear h h'
  go_enter Tryz.func22, Tryz.ntmps22
  go_wp2_with fail
  go_loopg [5] (l.length + 1) (fun m v wr => ∃ i : Nat, v = .int .i64 i ∧ i ≤ l.length ∧ m = l.length + 1 - i ∧ ∃ q, wr = w.drewN q)
  case atStart => exact ⟨0, rfl, Nat.zero_le _, rfl, 0, rfl⟩
  case round =>
    obtain ⟨i, rfl, hi, hm, q, hq⟩ := hrel
    have HN := hid hm
    have HQ := hid hq
    by_cases h1 : i < l.length
    · obtain ⟨y, hy⟩ : ∃ y, l[i]? = some y := ⟨_, List.getElem?_eq_getElem h1⟩
      obtain ⟨b, off, rfl, hb, hc⟩ := H.out i y hy
      obtain ⟨b', off', rfl, hb', hc'⟩ := H'.out i y hy
      have k0 : wr.cell? ⟨b, off + i * 3, none⟩ = some (.int .i64 y.kind) := by rw [hq]; exact hc 0 _ rfl
      have k1 : wr.cell? ⟨b, off + i * 3 + 1, none⟩ = some (.int .i64 y.key) := by rw [hq]; exact hc 1 _ rfl
      have k2 : wr.cell? ⟨b, off + i * 3 + 2, none⟩ = some (.int .u64 y.val) := by rw [hq]; exact hc 2 _ rfl
      have m0 : wr.cell? ⟨b', off' + i * 3, none⟩ = some (.int .i64 y.kind) := by rw [hq]; exact hc' 0 _ rfl
      have m1 : wr.cell? ⟨b', off' + i * 3 + 1, none⟩ = some (.int .i64 y.key) := by rw [hq]; exact hc' 1 _ rfl
      have m2 : wr.cell? ⟨b', off' + i * 3 + 2, none⟩ = some (.int .u64 y.val) := by rw [hq]; exact hc' 2 _ rfl
      clear hm hq hc hc' hy
      go_wp2_with fail
      go_quiet (fail)
      go_wp2_with fail
      go_roundg (l.length + 1 - (i + 1))
      case measure => rw [HN.out]; omega
      case rel => exact ⟨i + 1, by go_num, by omega, rfl, _, by rw [HQ.out]; exact drewN_two _ _ _⟩
    · clear hm hq
      go_wp2_with fail
      go_ret
      exact ⟨rfl, q, HQ.out⟩
end Go.Proofs.YtdejbinmnoabeaaGreat.Q
namespace Go.Proofs.YtdejbinmnoabeaaGreat
open Go.RowKit Go.Mine Go.Proofs.YtdejbinmnoabeaaGreatW.PrintWords
open Go.ChangeMaps (setBlock)
set_option linter.unusedVariables false
set_option linter.unusedSimpArgs false
def pz (iv qv : Value) (g : Int) (m0 m1 : Option Nat) : List Value := [iv, qv, .int .i64 g, .map m0, .map m1]
def zz (vs : List Int) (th : List Bool) (mo lo m0 m1 : Option Nat) (h1 : vs.length = 16) (h2 : th.length = 16) : Q.QZ := ⟨vs.map (Value.int .u64) ++ (th.map Value.bool ++ [Value.map mo, Value.map lo]), [.map m0, .map m1], by simp [h1, h2]⟩
theorem cells_eq {vs : List Int} {th : List Bool} {mo lo m0 m1 : Option Nat} {iv qv : Value} {g : Int} (h1 : vs.length = 16) (h2 : th.length = 16) : K.storeCells (pz iv qv g m0 m1) vs th mo lo = Q.qCells (zz vs th mo lo m0 m1 h1 h2) iv qv g := by
  simp [K.storeCells, Q.qCells, pz, zz]
theorem sc37 {vs : List Int} {th : List Bool} {mo lo m0 m1 : Option Nat} {iv qv : Value} {g : Int} (h1 : vs.length = 16) (h2 : th.length = 16) : (K.storeCells (pz iv qv g m0 m1) vs th mo lo)[37]? = some (.map m0) := K.sc_r h1 h2 mo lo 5
theorem sc38 {vs : List Int} {th : List Bool} {mo lo m0 m1 : Option Nat} {iv qv : Value} {g : Int} (h1 : vs.length = 16) (h2 : th.length = 16) : (K.storeCells (pz iv qv g m0 m1) vs th mo lo)[38]? = some (.map m1) := K.sc_r h1 h2 mo lo 6
theorem sc_set {Pz : List Value} {vs : List Int} {th : List Bool} {mo lo : Option Nat} (h1 : vs.length = 16) (h2 : th.length = 16) (j : Nat) (u : Value) : (K.storeCells Pz vs th mo lo).setIfInBounds (34 + j) u = K.storeCells (Pz.set j u) vs th mo lo := by
  simp only [K.storeCells, List.setIfInBounds_toArray]
  congr 1
  rw [List.set_append_right _ _ (by simp [h1]; omega), List.set_append_right _ _ (by simp [h1, h2]; omega)]
  congr 2
  simp only [List.length_map, h1, h2]
  rw [show 34 + j - 16 - 16 = j + 2 by omega]
  rfl
theorem set37 {vs : List Int} {th : List Bool} {mo lo m0 m1 : Option Nat} {iv qv : Value} {g : Int} (h1 : vs.length = 16) (h2 : th.length = 16) (m : Option Nat) : (K.storeCells (pz iv qv g m0 m1) vs th mo lo).setIfInBounds 37 (.map m) = K.storeCells (pz iv qv g m m1) vs th mo lo := sc_set h1 h2 3 _
theorem set38 {vs : List Int} {th : List Bool} {mo lo m0 m1 : Option Nat} {iv qv : Value} {g : Int} (h1 : vs.length = 16) (h2 : th.length = 16) (m : Option Nat) : (K.storeCells (pz iv qv g m0 m1) vs th mo lo).setIfInBounds 38 (.map m) = K.storeCells (pz iv qv g m0 m) vs th mo lo := sc_set h1 h2 4 _
theorem kv_rebase {Pz Pz' : List Value} {F S : Nat → Prop} {w w' : World} {b : Nat} {vs : List Int} {th : List Bool} {lk : LTab} {I : List K.WI} {L : List (Int × Nat × Nat)} {mo lo : Option Nat} (h : K.KvR Pz F w b vs th lk I L mo lo) (hf : Fr S w w') (hS : ∀ i, F i → i ≠ b → ¬ S i)
    (hb : w'.heap[b]? = some (.cells (K.storeCells Pz' vs th mo lo) 82 (0, 0))) : K.KvR Pz' F w' b vs th lk I L mo lo where
  fb i hi := Nat.lt_of_lt_of_le (h.fb i hi) hf.size
  b := h.b
  lv := h.lv
  lth := h.lth
  blk := hb
  map := h.map.fr hf (fun c hc => hS _ (h.mF c hc) (fun e => h.mo_ne.1 (e ▸ hc)))
  kvL := h.kvL
  mF := h.mF
  wk x hx := K.wk_fr hf (h.wk x hx) (hS _ (h.wk x hx).1 (h.wb_ne hx).1) (fun k hk => hS _ ((h.wk x hx).2.2.2 k hk) (h.row_ne hx hk).1) (fun _ q => q)
  apart := h.apart
  lt := by
    obtain ⟨L2, h0, ⟨mo2, h3, h4, h5, h6⟩⟩ := h.lt
    rw [K.sc33 h.lv h.lth] at h4
    cases h4
    exact ⟨L2, h0, ⟨lo, hb, K.sc33 h.lv h.lth _ _, h5.fr hf (fun c hc => hS _ (h.lF c hc) (fun e => h.mo_ne.2 (e ▸ hc))), fun c hc => hc⟩⟩
  lF := h.lF
  ml := h.ml
theorem qu_rebase {Z Z' : Q.QZ} {F S : Nat → Prop} {w w' : World} {b : Nat} {L : List It} {I : List Q.WI} {g : Int} {iv qv : Value} (h : Q.QR Z Q.eIt Q.T0 F w b L I g iv qv) (hf : Fr S w w') (hS : ∀ i, F i → i ≠ b → ¬ S i)
    (hb : w'.heap[b]? = some (.cells (Q.qCells Z' iv qv g) 82 (0, 0))) : Q.QR Z' Q.eIt Q.T0 F w' b L I g iv qv where
  fb i hi := Nat.lt_of_lt_of_le (h.fb i hi) hf.size
  bF := h.bF
  blk := hb
  it := h.it.move (fun k hk => hf.block k (h.it.lt hk) (hS _ (h.iF k hk) (fun e => h.iv_ne.1 (e ▸ hk))))
  wp := h.wp.move (fun k hk => hf.block k (h.wp.lt hk) (hS _ (h.qF k hk) (fun e => h.iv_ne.2.1 (e ▸ hk))))
  iF := h.iF
  qF := h.qF
  wk x hx := ⟨(h.wk x hx).1, hf.at_ (h.wk x hx).2.1 (hS _ (h.wk x hx).1 (h.wb_ne hx).1), (h.wk x hx).2.2.1.move (fun k hk => hf.block k ((h.wk x hx).2.2.1.lt hk) (hS _ ((h.wk x hx).2.2.2 k hk) (h.row_ne hx hk).1)), (h.wk x hx).2.2.2⟩
  apart := h.apart
structure RR (F FK FQ : Nat → Prop) (w : World) (b : Nat) (k : KS) (q : QS) (I : List K.WI) (L : List (Int × Nat × Nat)) (mo lo : Option Nat) (J : List Q.WI) (iv qv : Value) (m0 m1 : Option Nat) (L0 L1 : List (Int × Bool × Nat)) : Prop where
  kok : k.Ok
  qok : q.Ok
  kr : K.KvR (pz iv qv q.gv m0 m1) FK w b k.vs k.th k.lk I L mo lo
  kw : k.ws = K.wsOf I
  qr : Q.QR (zz k.vs k.th mo lo m0 m1 kr.lv kr.lth) Q.eIt Q.T0 FQ w b q.its J q.gv iv qv
  qw : q.ws = Q.wsOf J
  a0 : MapO (Value.int .i64) Value.bool w m0 L0
  a1 : MapO (Value.int .i64) Value.bool w m1 L1
  disj : ∀ i, FK i → FQ i → i = b
  z0 : ∀ c, m0 = some c → F c ∧ ¬ FK c ∧ ¬ FQ c
  z1 : ∀ c, m1 = some c → F c ∧ ¬ FK c ∧ ¬ FQ c
  z01 : ∀ c, m0 = some c → m1 ≠ some c
  fk : ∀ i, FK i → F i
  fq : ∀ i, FQ i → F i
  fb : ∀ i, F i → i < w.heap.size
def RX (F : Nat → Prop) (w : World) (b : Nat) (k : KS) (q : QS) (f0 f1 : Int → Bool) : Prop :=
  ∃ FK FQ I L mo lo J iv qv m0 m1 L0 L1, RR F FK FQ w b k q I L mo lo J iv qv m0 m1 L0 L1 ∧ (∀ n, (mget n L0).getD false = f0 n) ∧ (∀ n, (mget n L1).getD false = f1 n)
section
variable {F : Nat → Prop} {w : World} {b : Nat} {k : KS} {q : QS} {f0 f1 : Int → Bool}
theorem RX.fb (h : RX F w b k q f0 f1) : ∀ i, F i → i < w.heap.size := by
  obtain ⟨FK, FQ, I, L, mo, lo, J, iv, qv, m0, m1, L0, L1, h, _⟩ := h
  exact h.fb
theorem RX.bF (h : RX F w b k q f0 f1) : F b := by
  obtain ⟨FK, FQ, I, L, mo, lo, J, iv, qv, m0, m1, L0, L1, h, _⟩ := h
  exact h.fk _ h.kr.b
theorem RX.kok (h : RX F w b k q f0 f1) : k.Ok := by
  obtain ⟨FK, FQ, I, L, mo, lo, J, iv, qv, m0, m1, L0, L1, h, _⟩ := h
  exact h.kok
theorem RX.qok (h : RX F w b k q f0 f1) : q.Ok := by
  obtain ⟨FK, FQ, I, L, mo, lo, J, iv, qv, m0, m1, L0, L1, h, _⟩ := h
  exact h.qok
theorem RX.fr {S : Nat → Prop} {w' : World} (h : RX F w b k q f0 f1) (hf : Fr S w w') (hS : ∀ i, F i → ¬ S i) : RX F w' b k q f0 f1 := by
  obtain ⟨FK, FQ, I, L, mo, lo, J, iv, qv, m0, m1, L0, L1, h, h0, h1⟩ := h
  exact ⟨FK, FQ, I, L, mo, lo, J, iv, qv, m0, m1, L0, L1, ⟨h.kok, h.qok, h.kr.fr hf (fun i hi => hS i (h.fk i hi)), h.kw, h.qr.fr hf (fun i hi => hS i (h.fq i hi)), h.qw, h.a0.fr hf (fun c hc => hS c (h.z0 c hc).1), h.a1.fr hf (fun c hc => hS c (h.z1 c hc).1), h.disj, h.z0, h.z1, h.z01, h.fk, h.fq, fun i hi => Nat.lt_of_lt_of_le (h.fb i hi) hf.size⟩, h0, h1⟩
theorem RX.below {w' : World} (h : RX F w b k q f0 f1) (hb : Below w.heap.size w w') : RX F w' b k q f0 f1 := h.fr (Fr.of_below hb (Nat.le_refl _)) (fun _ _ q => q)
theorem RX.kv (h : RX F w b k q f0 f1) : ∃ FK Pz, (∀ i, FK i → F i) ∧ K.KvAt Pz FK w b k ∧ ∀ w' FK' k', K.KvAt Pz FK' w' b k' → K.Grew FK FK' w → Fr FK w w' → RX (fun i => F i ∨ FK' i) w' b k' q f0 f1 := by
  obtain ⟨FK, FQ, I, L, mo, lo, J, iv, qv, m0, m1, L0, L1, h, h0, h1⟩ := h
  refine ⟨FK, _, h.fk, ⟨h.kok, I, L, mo, lo, h.kr, h.kw⟩, ?_⟩
  rintro w' FK' k' ⟨hok', I', L', mo', lo', hr', hw'⟩ hg hf
  have hQ : ∀ i, FQ i → i ≠ b → ¬ FK i := fun i hi hne hk => hne (h.disj i hk hi)
  have hblk := hr'.blk
  rw [cells_eq hr'.lv hr'.lth] at hblk
  refine ⟨FK', FQ, I', L', mo', lo', J, iv, qv, m0, m1, L0, L1, ⟨hok', h.qok, hr', hw', qu_rebase h.qr hf hQ hblk, h.qw, h.a0.fr hf (fun c hc => (h.z0 c hc).2.1), h.a1.fr hf (fun c hc => (h.z1 c hc).2.1), fun i hi hq => ?_, fun c hc => ⟨.inl (h.z0 c hc).1, fun q => ?_, (h.z0 c hc).2.2⟩, fun c hc => ⟨.inl (h.z1 c hc).1, fun q => ?_, (h.z1 c hc).2.2⟩, h.z01, fun i hi => .inr hi, fun i hi => .inl (h.fq i hi), fun i hi => ?_⟩, h0, h1⟩
  · rcases hg i hi with r | r
    · exact h.disj i r hq
    · have := h.fb i (h.fq i hq); omega
  · rcases hg c q with r | r
    · exact (h.z0 c hc).2.1 r
    · have := h.fb c (h.z0 c hc).1; omega
  · rcases hg c q with r | r
    · exact (h.z1 c hc).2.1 r
    · have := h.fb c (h.z1 c hc).1; omega
  · rcases hi with r | r
    · exact Nat.lt_of_lt_of_le (h.fb i r) hf.size
    · exact hr'.fb i r
theorem RX.qu (h : RX F w b k q f0 f1) : ∃ FQ Z, (∀ i, FQ i → F i) ∧ Q.QAt Z FQ w b q ∧ ∀ w' FQ' q', Q.QAt Z FQ' w' b q' → q'.Ok → Q.Grew FQ FQ' w → Fr FQ w w' → RX (fun i => F i ∨ FQ' i) w' b k q' f0 f1 := by
  obtain ⟨FK, FQ, I, L, mo, lo, J, iv, qv, m0, m1, L0, L1, h, h0, h1⟩ := h
  refine ⟨FQ, _, h.fq, ⟨J, iv, qv, h.qr, h.qw⟩, ?_⟩
  rintro w' FQ' q' ⟨J', iv', qv', hr', hw'⟩ hok' hg hf
  have hQ : ∀ i, FK i → i ≠ b → ¬ FQ i := fun i hi hne hk => hne (h.disj i hi hk)
  have hblk := hr'.blk
  rw [← cells_eq h.kr.lv h.kr.lth] at hblk
  have hkr := kv_rebase h.kr hf hQ hblk
  refine ⟨FK, FQ', I, L, mo, lo, J', iv', qv', m0, m1, L0, L1, ⟨h.kok, hok', hkr, h.kw, hr', hw', h.a0.fr hf (fun c hc => (h.z0 c hc).2.2), h.a1.fr hf (fun c hc => (h.z1 c hc).2.2), fun i hi hq => ?_, fun c hc => ⟨.inl (h.z0 c hc).1, (h.z0 c hc).2.1, fun q => ?_⟩, fun c hc => ⟨.inl (h.z1 c hc).1, (h.z1 c hc).2.1, fun q => ?_⟩, h.z01, fun i hi => .inl (h.fk i hi), fun i hi => .inr hi, fun i hi => ?_⟩, h0, h1⟩
  · rcases hg i hq with r | r
    · exact h.disj i hi r
    · have := h.fb i (h.fk i hi); omega
  · rcases hg c q with r | r
    · exact (h.z0 c hc).2.2 r
    · have := h.fb c (h.z0 c hc).1; omega
  · rcases hg c q with r | r
    · exact (h.z1 c hc).2.2 r
    · have := h.fb c (h.z1 c hc).1; omega
  · rcases hi with r | r
    · exact Nat.lt_of_lt_of_le (h.fb i r) hf.size
    · exact hr'.fb i r
theorem RR.map0 {FK FQ : Nat → Prop} {I : List K.WI} {L : List (Int × Nat × Nat)} {mo lo : Option Nat} {J : List Q.WI} {iv qv : Value} {m0 m1 m0' : Option Nat} {L0 L1 L0' : List (Int × Bool × Nat)} {w' : World}
    (h : RR F FK FQ w b k q I L mo lo J iv qv m0 m1 L0 L1) (hf : Fr (fun i => i = b ∨ m0 = some i) w w') (hb : w'.heap[b]? = some (.cells (K.storeCells (pz iv qv q.gv m0' m1) k.vs k.th mo lo) 82 (0, 0)))
    (hm : MapO (Value.int .i64) Value.bool w' m0' L0') (hn : m0' = m0 ∨ ∀ c, m0' = some c → w.heap.size ≤ c ∧ c < w'.heap.size) :
    RR (fun i => F i ∨ m0' = some i) FK FQ w' b k q I L mo lo J iv qv m0' m1 L0' L1 := by
  have hKS : ∀ i, FK i → i ≠ b → ¬ (i = b ∨ m0 = some i) := fun i hi hne hq => hq.elim hne (fun r => (h.z0 i r).2.1 hi)
  have hQS : ∀ i, FQ i → i ≠ b → ¬ (i = b ∨ m0 = some i) := fun i hi hne hq => hq.elim hne (fun r => (h.z0 i r).2.2 hi)
  have hkr := kv_rebase h.kr hf hKS hb
  have hb2 := hb
  rw [cells_eq h.kr.lv h.kr.lth] at hb2
  have hFb := h.fk _ h.kr.b
  refine ⟨h.kok, h.qok, hkr, h.kw, qu_rebase h.qr hf hQS hb2, h.qw, hm, h.a1.fr hf (fun c hc hq => hq.elim (fun e => (h.z1 c hc).2.1 (e ▸ h.kr.b)) (fun e => h.z01 c e hc)), h.disj, fun c hc => ⟨.inr hc, ?_⟩, fun c hc => ⟨.inl (h.z1 c hc).1, (h.z1 c hc).2⟩, fun c hc => ?_, fun i hi => .inl (h.fk i hi), fun i hi => .inl (h.fq i hi), fun i hi => ?_⟩
  · rcases hn with e | e
    · exact (h.z0 c (e ▸ hc)).2
    · have := (e c hc).1
      exact ⟨fun q => by have := h.fb c (h.fk c q); omega, fun q => by have := h.fb c (h.fq c q); omega⟩
  · rcases hn with e | e
    · exact h.z01 c (e ▸ hc)
    · intro q
      have := (e c hc).1
      have := h.fb c (h.z1 c q).1
      omega
  · rcases hi with r | r
    · exact Nat.lt_of_lt_of_le (h.fb i r) hf.size
    · rcases hn with e | e
      · exact Nat.lt_of_lt_of_le (h.fb i (h.z0 i (e ▸ r)).1) hf.size
      · exact (e i r).2
theorem RR.map1 {FK FQ : Nat → Prop} {I : List K.WI} {L : List (Int × Nat × Nat)} {mo lo : Option Nat} {J : List Q.WI} {iv qv : Value} {m0 m1 m1' : Option Nat} {L0 L1 L1' : List (Int × Bool × Nat)} {w' : World}
    (h : RR F FK FQ w b k q I L mo lo J iv qv m0 m1 L0 L1) (hf : Fr (fun i => i = b ∨ m1 = some i) w w') (hb : w'.heap[b]? = some (.cells (K.storeCells (pz iv qv q.gv m0 m1') k.vs k.th mo lo) 82 (0, 0)))
    (hm : MapO (Value.int .i64) Value.bool w' m1' L1') (hn : m1' = m1 ∨ ∀ c, m1' = some c → w.heap.size ≤ c ∧ c < w'.heap.size) :
    RR (fun i => F i ∨ m1' = some i) FK FQ w' b k q I L mo lo J iv qv m0 m1' L0 L1' := by
  have hKS : ∀ i, FK i → i ≠ b → ¬ (i = b ∨ m1 = some i) := fun i hi hne hq => hq.elim hne (fun r => (h.z1 i r).2.1 hi)
  have hQS : ∀ i, FQ i → i ≠ b → ¬ (i = b ∨ m1 = some i) := fun i hi hne hq => hq.elim hne (fun r => (h.z1 i r).2.2 hi)
  have hkr := kv_rebase h.kr hf hKS hb
  have hb2 := hb
  rw [cells_eq h.kr.lv h.kr.lth] at hb2
  refine ⟨h.kok, h.qok, hkr, h.kw, qu_rebase h.qr hf hQS hb2, h.qw, h.a0.fr hf (fun c hc hq => hq.elim (fun e => (h.z0 c hc).2.1 (e ▸ h.kr.b)) (fun e => h.z01 c hc e)), hm, h.disj, fun c hc => ⟨.inl (h.z0 c hc).1, (h.z0 c hc).2⟩, fun c hc => ⟨.inr hc, ?_⟩, fun c hc => ?_, fun i hi => .inl (h.fk i hi), fun i hi => .inl (h.fq i hi), fun i hi => ?_⟩
  · rcases hn with e | e
    · exact (h.z1 c (e ▸ hc)).2
    · have := (e c hc).1
      exact ⟨fun q => by have := h.fb c (h.fk c q); omega, fun q => by have := h.fb c (h.fq c q); omega⟩
  · rcases hn with e | e
    · exact fun q => h.z01 c hc (e ▸ q)
    · intro q
      have := (e c q).1
      have := h.fb c (h.z0 c hc).1
      omega
  · rcases hi with r | r
    · exact Nat.lt_of_lt_of_le (h.fb i r) hf.size
    · rcases hn with e | e
      · exact Nat.lt_of_lt_of_le (h.fb i (h.z1 i (e ▸ r)).1) hf.size
      · exact (e i r).2
end
def RAt (F : Nat → Prop) (w : World) (b : Nat) (s : RM) : Prop := RX F w b s.k s.q (fun n => prepd n s.k.ws) (fun n => prepd n s.q.ws)
theorem RX.marks {F : Nat → Prop} {w : World} {b : Nat} {k : KS} {q : QS} {f0 f1 g0 g1 : Int → Bool} (h : RX F w b k q f0 f1) (h0 : ∀ n, f0 n = g0 n) (h1 : ∀ n, f1 n = g1 n) : RX F w b k q g0 g1 := by
  obtain ⟨FK, FQ, I, L, mo, lo, J, iv, qv, m0, m1, L0, L1, h, e0, e1⟩ := h
  exact ⟨FK, FQ, I, L, mo, lo, J, iv, qv, m0, m1, L0, L1, h, fun n => (e0 n).trans (h0 n), fun n => (e1 n).trans (h1 n)⟩
end Go.Proofs.YtdejbinmnoabeaaGreat
namespace Go.Proofs.YtdejbinmnoabeaaGreat
open Go.RowKit Go.Mine Go.Proofs.YtdejbinmnoabeaaGreatW.PrintWords
set_option linter.unusedVariables false
set_option linter.unusedSimpArgs false
theorem zero4 (w : World) : (zeroValue 4).run Tryz.prog w = .ok (.bool false) w := by kernel_rfl
theorem results_tmp3 {fn : Func} {t u v : Tmp} (h : fn.results = #[.tmp t, .tmp u, .tmp v]) (tmps : Array Value) (P : Program) (w : World) :
    (results fn tmps).run P w = .ok (.tuple #[tmps.getD t undef, tmps.getD u undef, tmps.getD v undef]) w := by
  simp [results, h]
def nilRes : Array Value := K.storeCells (pz (.slice none 0 0) (.slice none 0 0) 0 none none) (List.replicate 16 0) (List.replicate 16 false) none none
theorem new_any (w : World) : Calls Tryz.prog 5 #[] w fun e w' => e = .returned (.pointer (some ⟨w.heap.size, 0, none⟩)) ∧ w' = w.alloc (.cells nilRes 82) := by
  go_enter Tryz.func5, Tryz.ntmps5
  go_wp2
  go_ret
  exact ⟨rfl, rfl⟩
theorem new_rat (w : World) : RAt (fun i => i = w.heap.size) (w.alloc (.cells nilRes 82)) w.heap.size RM.new := by
  have hb := (MapKept.heap_alloc w (.cells nilRes 82)).1
  have h1 : (List.replicate 16 (0 : Int)).length = 16 := rfl
  have h2 : (List.replicate 16 false).length = 16 := rfl
  have hkr : K.KvR (pz (.slice none 0 0) (.slice none 0 0) 0 none none) (fun i => i = w.heap.size) (w.alloc (.cells nilRes 82)) w.heap.size (List.replicate 16 0) (List.replicate 16 false) [] [] [] none none :=
    ⟨fun i hi => by subst hi; simp, rfl, h1, h2, hb, rfl, rfl, fun c hc => (by cases hc), fun x hx => absurd hx List.not_mem_nil, List.Pairwise.nil, ⟨[], rfl, ⟨none, hb, K.sc33 h1 h2 _ _, rfl, fun c hc => (by cases hc)⟩⟩, fun c hc => (by cases hc), fun c hc => (by cases hc)⟩
  refine ⟨_, _, [], [], none, none, [], .slice none 0 0, .slice none 0 0, none, none, [], [], ⟨KS.Ok.new, QS.Ok.new, hkr, rfl, ?_, rfl, rfl, rfl, fun i hi _ => hi, fun c hc => (by cases hc), fun c hc => (by cases hc), fun c hc => (by cases hc), fun i hi => hi, fun i hi => hi, fun i hi => by subst hi; simp⟩, fun n => rfl, fun n => rfl⟩
  exact
    { fb := fun i hi => by subst hi; simp
      bF := rfl
      blk := hb.trans (congrArg (fun c => some (Obj.cells c 82 (0, 0))) (cells_eq h1 h2))
      it := Q.FR.nil _ _ _
      wp := Q.FR.nil _ _ _
      iF := fun k hk => by simp [Value.ownBlock] at hk
      qF := fun k hk => by simp [Value.ownBlock] at hk
      wk := fun x hx => absurd hx List.not_mem_nil
      apart := List.Pairwise.nil }
section
variable {F : Nat → Prop} {w : World} {b : Nat} {k : KS} {q : QS} {f0 f1 : Int → Bool} {s : RM}
theorem getD_bool {o : Option Bool} : (o.map Value.bool).getD (.bool false) = .bool (o.getD false) := by cases o <;> rfl
set_option maxRecDepth 100000 in
set_option maxHeartbeats 2000000 in
theorem fit_rx (h : RX F w b k q f0 f1) (n : Int) :
    Calls Tryz.prog 51 #[.pointer (some ⟨b, 0, none⟩), .int .i64 n] w fun e w' => e = .returned (.int .i64 (if n < 1 then 1 else if (f0 n || f1 n) = true then 7 else 0)) ∧ w = w' := by
  obtain ⟨FK, FQ, I, L, mo, lo, J, iv, qv, m0, m1, L0, L1, h, h0, h1⟩ := h
  have c0 : w.cell? ⟨b, 37, none⟩ = some (.map m0) := by rw [cell_of_row w b 37 _ _ _ h.kr.blk]; exact sc37 h.kr.lv h.kr.lth
  have c1 : w.cell? ⟨b, 38, none⟩ = some (.map m1) := by rw [cell_of_row w b 38 _ _ _ h.kr.blk]; exact sc38 h.kr.lv h.kr.lth
  have l0 := run_lookupO Tryz.underlying79 K.key3 h.a0 (zero4 w) n false
  have l1 := run_lookupO Tryz.underlying79 K.key3 h.a1 (zero4 w) n false
  simp only [Bool.false_eq_true, if_false, getD_bool, h0, h1] at l0 l1
  clear h h0 h1
  by_cases hn : n < 1
  · rw [if_pos hn]
    go_enter Tryz.func51, Tryz.ntmps51
    go_wp2_with fail
    go_ret
    exact ⟨rfl, rfl⟩
  · rw [if_neg hn]
    cases q0 : f0 n
    · cases q1 : f1 n
      all_goals
        rw [q0] at l0
        rw [q1] at l1
        simp only [Bool.or_self, Bool.false_or, Bool.false_eq_true, if_false, if_true]
        go_enter Tryz.func51, Tryz.ntmps51
        go_wp2_with fail
        go_ret
        exact ⟨rfl, rfl⟩
    · rw [q0] at l0
      generalize f1 n = z at *
      simp only [Bool.true_or, if_true]
      go_enter Tryz.func51, Tryz.ntmps51
      go_wp2_with fail
      go_ret
      exact ⟨rfl, rfl⟩
theorem fit_any (h : RAt F w b s) (n : Int) :
    Calls Tryz.prog 51 #[.pointer (some ⟨b, 0, none⟩), .int .i64 n] w fun e w' => e = .returned (.int .i64 (s.fit n)) ∧ w = w' := fit_rx h n
def RPost (F : Nat → Prop) (w : World) (b : Nat) (r : Value) (s' : RM) (e : Ending) (w' : World) : Prop :=
  e = .returned r ∧ (∃ F', RAt F' w' b s' ∧ K.Grew F F' w) ∧ Fr F w w'
theorem RPost.same (h : RAt F w b s) (r : Value) : RPost F w b r s (.returned r) w := ⟨rfl, ⟨F, h, K.Grew.refl _ _⟩, Fr.refl _ _⟩
theorem grew_or {F G G' : Nat → Prop} {w : World} (h : ∀ i, G i → F i) (hg : ∀ i, G' i → G i ∨ w.heap.size ≤ i) : K.Grew F (fun i => F i ∨ G' i) w := fun i hi => hi.elim .inl (fun q => (hg i q).imp (h i) id)
set_option maxRecDepth 100000 in
set_option maxHeartbeats 2000000 in
theorem get_any (h : RAt F w b s) (n : Int) (key : Int) :
    Calls Tryz.prog 23 #[.pointer (some ⟨b, 0, none⟩), .int .i64 n, .int .i64 key] w (RPost F w b (.tuple #[.int .u64 (s.get n key).1.1, .bool (s.get n key).1.2.1, .int .i64 (s.get n key).1.2.2]) (s.get n key).2) := by
  have HF := hid (fit_any h n)
  have H := hid h
  clear h
  rcases s.fit_cases n with ⟨hn, he⟩ | ⟨hn, he, hp⟩ | ⟨hn, he, hp0, hp1⟩
  · have HM := hid (show (s.get n key) = ((0, false, 1), s) from by unfold RM.get; rw [if_pos (by rw [he]; decide), he])
    rw [he] at HF
    go_enter Tryz.func23, Tryz.ntmps23
    go_wp2_with fail
    refine HF.out.mono ?_
    rintro e w1 ⟨rfl, rfl⟩
    go_wp2_with fail
    (try simp only [Exit.inBlock, Exit.then]); refine bodyPost_ret (results_tmp3 rfl _ _ _) rfl ?_
    rw [HM.out]
    exact RPost.same H.out _
  · have HM := hid (show (s.get n key) = ((0, false, 7), s) from by unfold RM.get; rw [if_pos (by rw [he]; decide), he])
    rw [he] at HF
    go_enter Tryz.func23, Tryz.ntmps23
    go_wp2_with fail
    refine HF.out.mono ?_
    rintro e w1 ⟨rfl, rfl⟩
    go_wp2_with fail
    (try simp only [Exit.inBlock, Exit.then]); refine bodyPost_ret (results_tmp3 rfl _ _ _) rfl ?_
    rw [HM.out]
    exact RPost.same H.out _
  · have HM := hid (show (s.get n key) = _ from by unfold RM.get; rw [if_neg (by rw [he]; simp)])
    rw [he] at HF
    obtain ⟨FK, Pz, hsub, hk, hst⟩ := H.out.kv
    have HC := hid ((K.get_any hk n key).mono (R' := fun e w' => e = .returned (.tuple #[.int .u64 (s.k.get n key).1.1, .bool (s.k.get n key).1.2.1, .int .i64 (s.k.get n key).1.2.2]) ∧ (∃ F', RAt F' w' b ⟨(s.k.get n key).2, s.q⟩ ∧ K.Grew F F' w) ∧ Fr F w w') (by
      rintro e w' ⟨FK', rfl, hk', hg, hf⟩
      exact ⟨rfl, ⟨_, (hst w' FK' _ hk' hg hf).marks (fun m => (prepd_get).symm) (fun _ => rfl), grew_or hsub hg⟩, hf.mono hsub⟩))
    clear hk hst
    clear he hp0 hp1
    go_enter Tryz.func23, Tryz.ntmps23
    go_wp2_with fail
    refine HF.out.mono ?_
    rintro e w1 ⟨rfl, rfl⟩
    go_wp2_with fail
    refine HC.out.mono ?_
    rintro e w1 ⟨rfl, hfin⟩
    go_wp2_with fail
    (try simp only [Exit.inBlock, Exit.then]); refine bodyPost_ret (results_tmp3 rfl _ _ _) rfl ?_
    rw [HM.out]
    exact ⟨rfl, hfin⟩
set_option maxRecDepth 100000 in
set_option maxHeartbeats 2000000 in
theorem put_any (h : RAt F w b s) (n : Int) (key v : Int) :
    Calls Tryz.prog 18 #[.pointer (some ⟨b, 0, none⟩), .int .i64 n, .int .i64 key, .int .u64 v] w (RPost F w b (.int .i64 (s.change n ⟨1, key, v⟩).1) (s.change n ⟨1, key, v⟩).2) := by
  have HF := hid (fit_any h n)
  have H := hid h
  clear h
  rcases s.fit_cases n with ⟨hn, he⟩ | ⟨hn, he, hp⟩ | ⟨hn, he, hp0, hp1⟩
  · have HM := hid (show (s.change n ⟨1, key, v⟩) = (1, s) from by unfold RM.change; rw [if_pos (by rw [he]; decide), he])
    rw [he] at HF
    go_enter Tryz.func18, Tryz.ntmps18
    go_wp2_with fail
    refine HF.out.mono ?_
    rintro e w1 ⟨rfl, rfl⟩
    go_wp2_with fail
    go_ret
    rw [HM.out]
    exact RPost.same H.out _
  · have HM := hid (show (s.change n ⟨1, key, v⟩) = (7, s) from by unfold RM.change; rw [if_pos (by rw [he]; decide), he])
    rw [he] at HF
    go_enter Tryz.func18, Tryz.ntmps18
    go_wp2_with fail
    refine HF.out.mono ?_
    rintro e w1 ⟨rfl, rfl⟩
    go_wp2_with fail
    go_ret
    rw [HM.out]
    exact RPost.same H.out _
  · have HM := hid (show (s.change n ⟨1, key, v⟩) = _ from by unfold RM.change; rw [if_neg (by rw [he]; simp)])
    rw [he] at HF
    obtain ⟨FK, Pz, hsub, hk, hst⟩ := H.out.kv
    have HC := hid ((K.put_any hk n key v).mono (R' := fun e w' => e = .returned (.int .i64 (s.k.change n ⟨1, key, v⟩).1) ∧ (∃ F', RAt F' w' b ⟨(s.k.change n ⟨1, key, v⟩).2, s.q⟩ ∧ K.Grew F F' w) ∧ Fr F w w') (by
      rintro e w' ⟨FK', rfl, hk', hg, hf⟩
      exact ⟨rfl, ⟨_, (hst w' FK' _ hk' hg hf).marks (fun m => (prepd_change H.out.kok).symm) (fun _ => rfl), grew_or hsub hg⟩, hf.mono hsub⟩))
    clear hk hst
    clear he hp0 hp1
    go_enter Tryz.func18, Tryz.ntmps18
    go_wp2_with fail
    refine HF.out.mono ?_
    rintro e w1 ⟨rfl, rfl⟩
    go_wp2_with fail
    refine HC.out.mono ?_
    rintro e w1 ⟨rfl, hfin⟩
    go_wp2_with fail
    go_ret
    rw [HM.out]
    exact ⟨rfl, hfin⟩
set_option maxRecDepth 100000 in
set_option maxHeartbeats 2000000 in
theorem del_any (h : RAt F w b s) (n : Int) (key : Int) :
    Calls Tryz.prog 24 #[.pointer (some ⟨b, 0, none⟩), .int .i64 n, .int .i64 key] w (RPost F w b (.int .i64 (s.change n ⟨2, key, 0⟩).1) (s.change n ⟨2, key, 0⟩).2) := by
  have HF := hid (fit_any h n)
  have H := hid h
  clear h
  rcases s.fit_cases n with ⟨hn, he⟩ | ⟨hn, he, hp⟩ | ⟨hn, he, hp0, hp1⟩
  · have HM := hid (show (s.change n ⟨2, key, 0⟩) = (1, s) from by unfold RM.change; rw [if_pos (by rw [he]; decide), he])
    rw [he] at HF
    go_enter Tryz.func24, Tryz.ntmps24
    go_wp2_with fail
    refine HF.out.mono ?_
    rintro e w1 ⟨rfl, rfl⟩
    go_wp2_with fail
    go_ret
    rw [HM.out]
    exact RPost.same H.out _
  · have HM := hid (show (s.change n ⟨2, key, 0⟩) = (7, s) from by unfold RM.change; rw [if_pos (by rw [he]; decide), he])
    rw [he] at HF
    go_enter Tryz.func24, Tryz.ntmps24
    go_wp2_with fail
    refine HF.out.mono ?_
    rintro e w1 ⟨rfl, rfl⟩
    go_wp2_with fail
    go_ret
    rw [HM.out]
    exact RPost.same H.out _
  · have HM := hid (show (s.change n ⟨2, key, 0⟩) = _ from by unfold RM.change; rw [if_neg (by rw [he]; simp)])
    rw [he] at HF
    obtain ⟨FK, Pz, hsub, hk, hst⟩ := H.out.kv
    have HC := hid ((K.del_any hk n key).mono (R' := fun e w' => e = .returned (.int .i64 (s.k.change n ⟨2, key, 0⟩).1) ∧ (∃ F', RAt F' w' b ⟨(s.k.change n ⟨2, key, 0⟩).2, s.q⟩ ∧ K.Grew F F' w) ∧ Fr F w w') (by
      rintro e w' ⟨FK', rfl, hk', hg, hf⟩
      exact ⟨rfl, ⟨_, (hst w' FK' _ hk' hg hf).marks (fun m => (prepd_change H.out.kok).symm) (fun _ => rfl), grew_or hsub hg⟩, hf.mono hsub⟩))
    clear hk hst
    clear he hp0 hp1
    go_enter Tryz.func24, Tryz.ntmps24
    go_wp2_with fail
    refine HF.out.mono ?_
    rintro e w1 ⟨rfl, rfl⟩
    go_wp2_with fail
    refine HC.out.mono ?_
    rintro e w1 ⟨rfl, hfin⟩
    go_wp2_with fail
    go_ret
    rw [HM.out]
    exact ⟨rfl, hfin⟩
set_option maxRecDepth 100000 in
set_option maxHeartbeats 2000000 in
theorem push_any (h : RAt F w b s) (n : Int) (v : Int) :
    Calls Tryz.prog 19 #[.pointer (some ⟨b, 0, none⟩), .int .i64 n, .int .u64 v] w (RPost F w b (.int .i64 (s.push n v).1) (s.push n v).2) := by
  have HF := hid (fit_any h n)
  have H := hid h
  clear h
  rcases s.fit_cases n with ⟨hn, he⟩ | ⟨hn, he, hp⟩ | ⟨hn, he, hp0, hp1⟩
  · have HM := hid (show (s.push n v) = (1, s) from by unfold RM.push; rw [if_pos (by rw [he]; decide), he])
    rw [he] at HF
    go_enter Tryz.func19, Tryz.ntmps19
    go_wp2_with fail
    refine HF.out.mono ?_
    rintro e w1 ⟨rfl, rfl⟩
    go_wp2_with fail
    go_ret
    rw [HM.out]
    exact RPost.same H.out _
  · have HM := hid (show (s.push n v) = (7, s) from by unfold RM.push; rw [if_pos (by rw [he]; decide), he])
    rw [he] at HF
    go_enter Tryz.func19, Tryz.ntmps19
    go_wp2_with fail
    refine HF.out.mono ?_
    rintro e w1 ⟨rfl, rfl⟩
    go_wp2_with fail
    go_ret
    rw [HM.out]
    exact RPost.same H.out _
  · have HM := hid (show (s.push n v) = _ from by unfold RM.push; rw [if_neg (by rw [he]; simp)])
    rw [he] at HF
    obtain ⟨FQ, Z, hsub, hk, hst⟩ := H.out.qu
    have HC := hid ((Q.put_any hk H.out.qok.bd n v).mono (R' := fun e w' => e = .returned (.int .i64 (s.q.put n v).1) ∧ (∃ F', RAt F' w' b ⟨s.k, (s.q.put n v).2⟩ ∧ K.Grew F F' w) ∧ Fr F w w') (by
      rintro e w' ⟨rfl, ⟨FQ', hk', hg⟩, hf⟩
      exact ⟨rfl, ⟨_, (hst w' FQ' _ hk' (H.out.qok.put n v) hg hf).marks (fun _ => rfl) (fun m => (prepd_put H.out.qok).symm), grew_or hsub hg⟩, hf.mono hsub⟩))
    clear hk hst
    clear he hp0 hp1
    go_enter Tryz.func19, Tryz.ntmps19
    go_wp2_with fail
    refine HF.out.mono ?_
    rintro e w1 ⟨rfl, rfl⟩
    go_wp2_with fail
    refine HC.out.mono ?_
    rintro e w1 ⟨rfl, hfin⟩
    go_wp2_with fail
    go_ret
    rw [HM.out]
    exact ⟨rfl, hfin⟩
set_option maxRecDepth 100000 in
set_option maxHeartbeats 2000000 in
theorem pop_any (h : RAt F w b s) (n : Int)  :
    Calls Tryz.prog 25 #[.pointer (some ⟨b, 0, none⟩), .int .i64 n] w (RPost F w b (.tuple #[.int .u64 (s.pop n).1.1, .int .i64 (s.pop n).1.2]) (s.pop n).2) := by
  have HF := hid (fit_any h n)
  have H := hid h
  clear h
  rcases s.fit_cases n with ⟨hn, he⟩ | ⟨hn, he, hp⟩ | ⟨hn, he, hp0, hp1⟩
  · have HM := hid (show (s.pop n) = ((0, 1), s) from by unfold RM.pop; rw [if_pos (by rw [he]; decide), he])
    rw [he] at HF
    go_enter Tryz.func25, Tryz.ntmps25
    go_wp2_with fail
    refine HF.out.mono ?_
    rintro e w1 ⟨rfl, rfl⟩
    go_wp2_with fail
    go_ret2
    rw [HM.out]
    exact RPost.same H.out _
  · have HM := hid (show (s.pop n) = ((0, 7), s) from by unfold RM.pop; rw [if_pos (by rw [he]; decide), he])
    rw [he] at HF
    go_enter Tryz.func25, Tryz.ntmps25
    go_wp2_with fail
    refine HF.out.mono ?_
    rintro e w1 ⟨rfl, rfl⟩
    go_wp2_with fail
    go_ret2
    rw [HM.out]
    exact RPost.same H.out _
  · have HM := hid (show (s.pop n) = _ from by unfold RM.pop; rw [if_neg (by rw [he]; simp)])
    rw [he] at HF
    obtain ⟨FQ, Z, hsub, hk, hst⟩ := H.out.qu
    have HC := hid ((Q.take_any hk H.out.qok.bd n).mono (R' := fun e w' => e = .returned (.tuple #[.int .u64 (s.q.take n).1.1, .int .i64 (s.q.take n).1.2]) ∧ (∃ F', RAt F' w' b ⟨s.k, (s.q.take n).2⟩ ∧ K.Grew F F' w) ∧ Fr F w w') (by
      rintro e w' ⟨rfl, ⟨FQ', hk', hg⟩, hf⟩
      exact ⟨rfl, ⟨_, (hst w' FQ' _ hk' (H.out.qok.take n) hg hf).marks (fun _ => rfl) (fun m => (prepd_take H.out.qok).symm), grew_or hsub hg⟩, hf.mono hsub⟩))
    clear hk hst
    clear he hp0 hp1
    go_enter Tryz.func25, Tryz.ntmps25
    go_wp2_with fail
    refine HF.out.mono ?_
    rintro e w1 ⟨rfl, rfl⟩
    go_wp2_with fail
    refine HC.out.mono ?_
    rintro e w1 ⟨rfl, hfin⟩
    go_wp2_with fail
    go_ret2
    rw [HM.out]
    exact ⟨rfl, hfin⟩
end
end Go.Proofs.YtdejbinmnoabeaaGreat
