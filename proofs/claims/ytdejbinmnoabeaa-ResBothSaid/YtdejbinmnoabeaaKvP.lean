/- The store of keys, plain: a work's changes, restored elsewhere and committed, make the same values. -/
import Derived.Test.YtdejbinmnoabeaaKvW4
namespace Go.Mine
set_option linter.unusedVariables false
set_option linter.unusedSimpArgs false

theorem touch_vals (s : KS) (n k : Int) (al : Bool) : (s.touch n k al).2.vs = s.vs ∧ (s.touch n k al).2.th = s.th := by
  unfold KS.touch
  split
  · exact ⟨rfl, rfl⟩
  · split
    · exact ⟨rfl, rfl⟩
    · split <;> exact ⟨rfl, rfl⟩
theorem change_vals (s : KS) (n : Int) (c : Ch) : (s.change n c).2.vs = s.vs ∧ (s.change n c).2.th = s.th := by
  unfold KS.change
  simp only
  split <;> exact touch_vals _ _ _ _
theorem touch_keep {s : KS} {n k : Int} {al : Bool} (h : (s.touch n k al).1 ≠ 0) : (s.touch n k al).2 = s := by
  unfold KS.touch at h ⊢
  split
  · rfl
  · rename_i h1
    rw [if_neg h1] at h
    split
    · rfl
    · rename_i h2
      rw [if_neg h2] at h
      split
      · rfl
      · rename_i h3
        rw [if_neg h3] at h
        exact absurd rfl h
theorem setV_get {s : KS} (h1 : s.vs.length = 16) (h2 : s.th.length = 16) {c : Ch} (hc : chOk c = true) (k : Nat) (hk : k < 16) :
    ((setV s c).vs.getD k 0, (setV s c).th.getD k false) = if c.key = (k : Int) then (c.val, c.kind == 1) else (s.vs.getD k 0, s.th.getD k false) := by
  have hck := (chOk_iff c).1 hc
  simp only [setV, List.getD_eq_getElem?_getD, List.getElem?_set]
  by_cases e : c.key = (k : Int)
  · have e' : c.key.toNat = k := by omega
    rw [if_pos e]
    simp [e', h1, h2, hk]
  · have e' : ¬ c.key.toNat = k := by omega
    rw [if_neg e]
    simp [e']
theorem setV_len (s : KS) (c : Ch) : (setV s c).vs.length = s.vs.length ∧ (setV s c).th.length = s.th.length := by simp [setV]
/-- What a work's changes leave of a key. -/
theorem setVs_get : ∀ (l : List Ch) (s : KS), s.vs.length = 16 → s.th.length = 16 → (∀ c ∈ l, chOk c = true) → (l.map (·.key)).Nodup → ∀ (k : Nat), k < 16 →
    ((l.foldl setV s).vs.getD k 0, (l.foldl setV s).th.getD k false) = match l.find? (fun c => c.key == (k : Int)) with | some c => (c.val, c.kind == 1) | none => (s.vs.getD k 0, s.th.getD k false)
  | [], s, _, _, _, _, k, hk => rfl
  | c :: cs, s, h1, h2, h3, h4, k, hk => by
    rw [List.map_cons, List.nodup_cons] at h4
    have hl := setV_len s c
    have ih := setVs_get cs (setV s c) (hl.1.trans h1) (hl.2.trans h2) (fun d hd => h3 d (by simp [hd])) h4.2 k hk
    rw [List.foldl_cons, ih, List.find?_cons]
    have hg := setV_get h1 h2 (h3 c (by simp)) k hk
    by_cases e : c.key = (k : Int)
    · have hn : cs.find? (fun c => c.key == (k : Int)) = none := by
        rw [List.find?_eq_none]
        intro d hd q
        have : d.key = (k : Int) := by simpa using q
        exact h4.1 (List.mem_map.2 ⟨d, hd, this.trans e.symm⟩)
      rw [hn]
      simp only [e, beq_self_eq_true]
      rw [hg, if_pos e]
    · have : (c.key == (k : Int)) = false := by simpa using e
      simp only [this]
      cases cs.find? (fun c => c.key == (k : Int)) with
      | some d => rfl
      | none => rw [hg, if_neg e]
theorem setVs_len : ∀ (l : List Ch) (s : KS), (l.foldl setV s).vs.length = s.vs.length ∧ (l.foldl setV s).th.length = s.th.length
  | [], s => ⟨rfl, rfl⟩
  | c :: cs, s => ⟨(setVs_len cs (setV s c)).1.trans (setV_len s c).1, (setVs_len cs (setV s c)).2.trans (setV_len s c).2⟩
theorem setVs_congr : ∀ (l : List Ch) {s t : KS}, s.vs = t.vs → s.th = t.th → (l.foldl setV s).vs = (l.foldl setV t).vs ∧ (l.foldl setV s).th = (l.foldl setV t).th
  | [], _, _, h1, h2 => ⟨h1, h2⟩
  | c :: cs, s, t, h1, h2 => setVs_congr cs (s := setV s c) (t := setV t c) (by simp [setV, h1]) (by simp [setV, h2])
theorem ext16 {a b : List Int} (ha : a.length = 16) (hb : b.length = 16) (h : ∀ k : Nat, k < 16 → a.getD k 0 = b.getD k 0) : a = b := by
  apply List.ext_getElem (by omega)
  intro i h1 h2
  have := h i (by omega)
  simpa [List.getD_eq_getElem?_getD, List.getElem?_eq_getElem h1, List.getElem?_eq_getElem h2] using this
theorem ext16b {a b : List Bool} (ha : a.length = 16) (hb : b.length = 16) (h : ∀ k : Nat, k < 16 → a.getD k false = b.getD k false) : a = b := by
  apply List.ext_getElem (by omega)
  intro i h1 h2
  have := h i (by omega)
  simpa [List.getD_eq_getElem?_getD, List.getElem?_eq_getElem h1, List.getElem?_eq_getElem h2] using this

/-! ### A store filled by work 1 with another one's values -/
def fillP (th : List Bool) (i : Nat) : List Nat := (List.range i).filter (fun k => th.getD k false)
def fillL (vs : List Int) (th : List Bool) (i : Nat) : List Ch := (fillP th i).map (fun (k : Nat) => (⟨1, (k : Int), vs.getD k 0⟩ : Ch))
structure Filled (vs : List Int) (th : List Bool) (i : Nat) (t : KS) : Prop where
  ok : t.Ok
  v : t.vs = List.replicate 16 0
  h : t.th = List.replicate 16 false
  lk : ∀ e ∈ t.lk, e.1.2 = 1 ∧ e.1.1 < (i : Int)
  ll : t.lk.length ≤ i
  ws : ∀ x ∈ t.ws, x.1 = 1 ∧ x.2.p = false
  l : t.listOf 1 = fillL vs th i
theorem Filled.start (vs : List Int) (th : List Bool) : Filled vs th 0 KS.new := ⟨KS.Ok.new, rfl, rfl, by simp [KS.new], by simp [KS.new], by simp [KS.new], rfl⟩
theorem fillP_true {th : List Bool} {i : Nat} (h : th.getD i false = true) : fillP th (i + 1) = fillP th i ++ [i] := by
  unfold fillP
  rw [List.range_succ, List.filter_append]
  simp [-List.getD_eq_getElem?_getD, h]
theorem fillP_false {th : List Bool} {i : Nat} (h : th.getD i false = false) : fillP th (i + 1) = fillP th i := by
  unfold fillP
  rw [List.range_succ, List.filter_append]
  simp [-List.getD_eq_getElem?_getD, h]
theorem Filled.skip {vs : List Int} {th : List Bool} {i : Nat} {t : KS} (h : Filled vs th i t) (ht : th.getD i false = false) : Filled vs th (i + 1) t :=
  ⟨h.ok, h.v, h.h, fun e he => ⟨(h.lk e he).1, by have := (h.lk e he).2; omega⟩, by have := h.ll; omega, h.ws, by rw [h.l]; unfold fillL; rw [fillP_false ht]⟩
theorem Filled.put {vs : List Int} {th : List Bool} {i : Nat} {t : KS} (h : Filled vs th i t) (hi : i < 16) (ht : th.getD i false = true) :
    (t.change 1 ⟨1, (i : Int), vs.getD i 0⟩).1 = 0 ∧ Filled vs th (i + 1) (t.change 1 ⟨1, (i : Int), vs.getD i 0⟩).2 := by
  have hno : t.lk.any (confA 1 (i : Int) true ((aget ((i : Int), 1) t.lk).getD false)) = false := by
    rw [List.any_eq_false]
    intro e he hc
    simp [confA, (h.lk e he).1] at hc
  have hg : aget ((i : Int), 1) t.lk = none := by
    rw [aget_none]
    intro e he q
    have := (h.lk e he).2
    rw [q] at this
    simp at this
  have htk : takeA t.lk 1 (i : Int) true = (0, t.lk ++ [(((i : Int), 1), true)]) := by
    unfold takeA
    have := h.ll
    rw [if_neg (by simp [hno]), if_neg (by simp [hg]; omega), hg]
    simp [aput, hg]
  have hp : ((aget 1 t.ws).map (·.p)).getD false = false := by
    cases hq : aget 1 t.ws with
    | none => rfl
    | some v => exact (h.ws _ (aget_mem hq)).2
  have htd : t.touch 1 (i : Int) true = (0, ⟨t.vs, t.th, if (aget 1 t.ws).isSome then t.ws else t.ws ++ [(1, ⟨[], false⟩)], t.lk ++ [(((i : Int), 1), true)]⟩) := by
    unfold KS.touch
    rw [if_neg (by omega), if_neg (by rw [hp]; simp), htk, if_neg (by simp)]
  have h0 : (t.touch 1 (i : Int) true).1 = 0 := by rw [htd]
  have hch : (t.change 1 ⟨1, (i : Int), vs.getD i 0⟩) = (0, { (t.touch 1 (i : Int) true).2 with ws := aput 1 ⟨putCh ⟨1, (i : Int), vs.getD i 0⟩ ((t.touch 1 (i : Int) true).2.listOf 1), false⟩ (t.touch 1 (i : Int) true).2.ws }) := by
    unfold KS.change
    simp only
    rw [if_neg (by simp [h0])]
  have hlt := touch_list h0
  have hli : (t.touch 1 (i : Int) true).2.listOf 1 = fillL vs th i := by
    unfold KS.listOf
    rw [hlt]
    exact h.l
  have hok := h.ok.change 1 ⟨1, (i : Int), vs.getD i 0⟩ (.inl rfl)
  have hokt := h.ok.touch 1 (i : Int) true
  have hnone : chAt (i : Int) (fillL vs th i) = none := by
    unfold chAt
    rw [List.findIdx?_eq_none_iff]
    intro x hx
    simp only [fillL, fillP, List.mem_map, List.mem_filter, List.mem_range] at hx
    obtain ⟨k, ⟨hk, _⟩, rfl⟩ := hx
    simp; omega
  have hput : putCh ⟨1, (i : Int), vs.getD i 0⟩ (fillL vs th i) = fillL vs th (i + 1) := by
    unfold putCh
    rw [show (⟨1, (i : Int), vs.getD i 0⟩ : Ch).key = (i : Int) from rfl, hnone]
    unfold fillL
    rw [fillP_true ht, List.map_append]
    rfl
  refine ⟨by rw [hch], hok, ?_, ?_, ?_, ?_, ?_, ?_⟩
  · rw [(change_vals _ _ _).1]; exact h.v
  · rw [(change_vals _ _ _).2]; exact h.h
  · rw [hch, htd]
    intro e he
    rcases List.mem_append.1 he with he | he
    · exact ⟨(h.lk e he).1, by have := (h.lk e he).2; omega⟩
    · obtain rfl := List.mem_singleton.1 he
      exact ⟨rfl, by show (i : Int) < ((i + 1 : Nat) : Int); omega⟩
  · rw [hch, htd]
    have := h.ll
    simp; omega
  · rw [hch]
    intro x hx
    rcases mem_aput hx with rfl | ⟨hx, hn⟩
    · exact ⟨rfl, rfl⟩
    · rw [htd] at hx
      exfalso
      simp only at hx
      split at hx
      · exact hn (h.ws x hx).1
      · rcases List.mem_append.1 hx with hx | hx
        · exact hn (h.ws x hx).1
        · obtain rfl := List.mem_singleton.1 hx; exact hn rfl
  · have e : aget 1 (t.change 1 ⟨1, (i : Int), vs.getD i 0⟩).2.ws = some ⟨fillL vs th (i + 1), false⟩ := by
      rw [hch]
      show aget 1 (aput 1 ⟨putCh ⟨1, (i : Int), vs.getD i 0⟩ ((t.touch 1 (i : Int) true).2.listOf 1), false⟩ (t.touch 1 (i : Int) true).2.ws) = _
      rw [aget_put_self _ _ hokt.keys, hli, hput]
    show ((aget 1 (t.change 1 ⟨1, (i : Int), vs.getD i 0⟩).2.ws).map (·.l)).getD [] = _
    rw [e]
    rfl
theorem fill_find {vs : List Int} {th : List Bool} (k : Nat) (hk : k < 16) : (fillL vs th 16).find? (fun c => c.key == (k : Int)) = if th.getD k false then some ⟨1, (k : Int), vs.getD k 0⟩ else none := by
  cases hq : (fillL vs th 16).find? (fun c => c.key == (k : Int)) with
  | some c =>
    have h1 := List.mem_of_find?_eq_some hq
    have h2 := List.find?_some hq
    simp only [fillL, fillP, List.mem_map, List.mem_filter, List.mem_range] at h1
    obtain ⟨j, ⟨hj, hj2⟩, rfl⟩ := h1
    have : j = k := by have : (j : Int) = (k : Int) := by simpa using h2
                       omega
    subst this
    rw [if_pos hj2]
  | none =>
    rw [List.find?_eq_none] at hq
    split
    · rename_i ht
      exact absurd (by simp) (hq ⟨1, (k : Int), vs.getD k 0⟩ (by simp only [fillL, fillP, List.mem_map, List.mem_filter, List.mem_range]; exact ⟨k, ⟨hk, ht⟩, rfl⟩))
    · rfl
/-- .. and committed, it has that one's values, and nothing else. -/
theorem Filled.commit {s t : KS} (hs : s.Ok) (h : Filled s.vs s.th 16 t) : t.commit 1 = (0, ⟨s.vs, s.th, [], []⟩) := by
  have hrw : RW (t.listOf 1) := h.ok.listOf 1
  have hg := setVs_get (t.listOf 1) t h.ok.lv h.ok.lt hrw.1 hrw.2
  have hl := setVs_len (t.listOf 1) t
  have hk := setVs_keep (t.listOf 1) t
  have key : ∀ k : Nat, k < 16 → ((t.listOf 1).foldl setV t).vs.getD k 0 = s.vs.getD k 0 ∧ ((t.listOf 1).foldl setV t).th.getD k false = s.th.getD k false := by
    intro k hk16
    have h1 := hg k hk16
    rw [h.l, fill_find k hk16] at h1
    rw [h.l]
    cases ht : s.th.getD k false
    · rw [ht] at h1
      simp only [Bool.false_eq_true, if_false, h.v, h.h] at h1
      have h2 := congrArg Prod.fst h1
      have h3 := congrArg Prod.snd h1
      simp only at h2 h3
      rw [h2, h3, hs.z k ht]
      rw [List.getD_eq_getElem?_getD, List.getD_eq_getElem?_getD, List.getElem?_replicate, List.getElem?_replicate]
      rw [if_pos hk16, if_pos hk16]
      exact ⟨rfl, rfl⟩
    · rw [ht] at h1
      simp only [if_true] at h1
      have h2 := congrArg Prod.fst h1
      have h3 := congrArg Prod.snd h1
      simp only at h2 h3
      exact ⟨h2, h3⟩
  have ev : ((t.listOf 1).foldl setV t).vs = s.vs := ext16 (hl.1.trans h.ok.lv) hs.lv (fun k hk => (key k hk).1)
  have eh : ((t.listOf 1).foldl setV t).th = s.th := ext16b (hl.2.trans h.ok.lt) hs.lt (fun k hk => (key k hk).2)
  rw [commit_do (by omega)]
  unfold KS.gone
  rw [ev, eh, hk.1, hk.2]
  have e1 : adel 1 t.ws = [] := by
    unfold adel
    rw [List.filter_eq_nil_iff]
    intro x hx
    simp [(h.ws x hx).1]
  have e2 : dropA 1 t.lk = [] := by
    unfold dropA
    rw [List.filter_eq_nil_iff]
    intro x hx
    simp [ownA, (h.lk x hx).1]
  rw [e1, e2]

/-! ### A work that is not prepared -/
def unprep (n : Int) (s : KS) : Prop := ((aget n s.ws).map (·.p)).getD false = false
theorem unprep_touch {n : Int} {s : KS} (h : unprep n s) (k : Int) (al : Bool) : unprep n (s.touch n k al).2 := by
  by_cases h0 : (s.touch n k al).1 = 0
  · unfold unprep
    rw [touch_list h0]
    rfl
  · rw [touch_keep h0]; exact h
theorem KS.prep_none_ {s : KS} {n : Int} (h : ¬ n < 1) (hg : aget n s.ws = none) : s.prepare n = (([], 0), s.gone n) := by simp [KS.prepare, h, hg]
theorem KS.prep_empty_ {s : KS} {n : Int} {v : KW} (h : ¬ n < 1) (hg : aget n s.ws = some v) (hp : v.p = false) (hl : v.l = []) : s.prepare n = (([], 0), s.gone n) := by simp [KS.prepare, h, hg, hp, hl]
theorem KS.prep_done_ {s : KS} {n : Int} {v : KW} (h : ¬ n < 1) (hg : aget n s.ws = some v) (hp : v.p = false) (hl : v.l ≠ []) : s.prepare n = ((v.l, 0), { s with ws := aput n ⟨v.l, true⟩ s.ws }) := by simp [KS.prepare, h, hg, hp, hl]
theorem prep_facts {n : Int} {s : KS} (hs : s.Ok) (hn : ¬ n < 1) (h : unprep n s) : (s.prepare n).1.2 = 0 ∧ RW (s.prepare n).1.1 ∧ (s.prepare n).2.listOf n = (s.prepare n).1.1 := by
  cases hg : aget n s.ws with
  | none =>
    rw [KS.prep_none_ hn hg]
    refine ⟨rfl, RW.nil, ?_⟩
    show ((aget n (adel n s.ws)).map (·.l)).getD [] = []
    have : aget n (adel n s.ws) = none := by
      rw [aget_none]
      intro e he
      have := (List.mem_filter.1 he).2
      simpa using this
    rw [this]; rfl
  | some v =>
    have hp : v.p = false := by unfold unprep at h; rw [hg] at h; exact h
    by_cases hl : v.l = []
    · rw [KS.prep_empty_ hn hg hp hl]
      refine ⟨rfl, RW.nil, ?_⟩
      show ((aget n (adel n s.ws)).map (·.l)).getD [] = []
      have : aget n (adel n s.ws) = none := by
        rw [aget_none]
        intro e he
        have := (List.mem_filter.1 he).2
        simpa using this
      rw [this]; rfl
    · rw [KS.prep_done_ hn hg hp hl]
      refine ⟨rfl, hs.chs _ (aget_mem hg), ?_⟩
      unfold KS.listOf
      simp only
      rw [aget_put_self _ _ hs.keys]
      rfl
theorem takeAll_free {n : Int} : ∀ (l : List Ch) (A : LTab), (∀ e ∈ A, e.1.2 = n) → A.length + l.length ≤ 64 → (takeAll n l A).1 = 0
  | [], _, _, _ => rfl
  | c :: cs, A, h, hl => by
    have hno : A.any (confA n c.key true ((aget (c.key, n) A).getD false)) = false := by
      rw [List.any_eq_false]
      intro e he hc
      simp [confA, h e he] at hc
    have htk : takeA A n c.key true = (0, aput (c.key, n) ((aget (c.key, n) A).getD false || true) A) := by
      unfold takeA
      simp at hl
      rw [if_neg (by simp [hno]), if_neg (by simp; intro _; omega)]
    unfold takeAll
    rw [htk, if_neg (by simp)]
    have h1 := aput_length_le (c.key, n) ((aget (c.key, n) A).getD false || true) A
    refine takeAll_free cs _ (fun e he => ?_) (by show (aput (c.key, n) ((aget (c.key, n) A).getD false || true) A).length + cs.length ≤ 64; simp only [List.length_cons] at hl; omega)
    rcases mem_aput he with rfl | ⟨he, _⟩
    · rfl
    · exact h e he
/-- A store without works takes a work back. -/
theorem restore_free {n : Int} {vs : List Int} {th : List Bool} {l : List Ch} (hn : ¬ n < 1) (hl : RW l) :
    ∃ lk, KS.restore ⟨vs, th, [], []⟩ n l = (0, ⟨vs, th, if l = [] then [] else [(n, ⟨l, true⟩)], lk⟩) := by
  have hr : rightL l [] = true := (rw_iff l).2 hl
  have ht : (takeAll n l []).1 = 0 := takeAll_free l [] (by simp) (by have := hl.len; simp; omega)
  refine ⟨(takeAll n l []).2, ?_⟩
  simp [KS.restore, hn, hr, aget, ht]
end Go.Mine
