/- Texts of this seat, put together: RzY0, RzY1, RzT0, RzT, RzU. -/
import Derived.Test.YtdejbinmnoabeaaBd18
import Derived.Test.YtdejbinmnoabeaaBd19
import Derived.Test.YtdejbinmnoabeaaBd17
namespace Go.Mine
set_option linter.unusedVariables false
set_option linter.unusedSimpArgs false
def V64 (v : Int) : Prop := 0 ≤ v ∧ v < 18446744073709551616
theorem V64.zero : V64 0 := ⟨by omega, by omega⟩
def LU (l : List Ch) : Prop := ∀ c ∈ l, V64 c.val
def WU (ws : List (Int × KW)) : Prop := ∀ x ∈ ws, LU x.2.l
theorem LU.nil : LU [] := fun c hc => by simp at hc
theorem LU.snoc {l : List Ch} (h : LU l) {c : Ch} (hc : V64 c.val) : LU (l ++ [c]) := fun x hx => by
  rcases List.mem_append.1 hx with hx | hx
  · exact h x hx
  · obtain rfl := List.mem_singleton.1 hx; exact hc
theorem WU.del {ws : List (Int × KW)} (h : WU ws) (n : Int) : WU (adel n ws) := fun x hx => h x (List.mem_filter.1 hx).1
theorem WU.put {ws : List (Int × KW)} (h : WU ws) (n : Int) {v : KW} (hv : LU v.l) : WU (aput n v ws) := fun x hx => by
  rcases mem_aput hx with rfl | ⟨hx, _⟩
  · exact hv
  · exact h x hx
theorem WU.snoc {ws : List (Int × KW)} (h : WU ws) (n : Int) {v : KW} (hv : LU v.l) : WU (ws ++ [(n, v)]) := fun x hx => by
  rcases List.mem_append.1 hx with hx | hx
  · exact h x hx
  · obtain rfl := List.mem_singleton.1 hx; exact hv
theorem WU.list {ws : List (Int × KW)} (h : WU ws) (n : Int) : LU (listOfW n ws) := fun c hc => by
  obtain ⟨x, hx, hcx⟩ := listOfW_mem hc
  exact h x hx c hcx
theorem WU.note {ws : List (Int × KW)} (h : WU ws) (n : Int) {c : Ch} (hc : V64 c.val) : WU (noteW n c ws) := fun x hx => by
  rcases noteW_mem hx with hx | rfl
  · exact h x hx
  · exact (h.list n).snoc hc
theorem LU.putCh {l : List Ch} (h : LU l) {c : Ch} (hc : V64 c.val) : LU (putCh c l) := by
  unfold Go.Mine.putCh
  split
  · intro x hx
    rcases List.mem_or_eq_of_mem_set hx with hx | rfl
    · exact h x hx
    · exact hc
  · exact h.snoc hc
theorem WU.touch {s : KS} (h : WU s.ws) (n key : Int) (al : Bool) : WU (s.touch n key al).2.ws := by
  unfold KS.touch
  split
  · exact h
  · split
    · exact h
    · split
      · exact h
      · show WU (if (aget n s.ws).isSome = true then s.ws else s.ws ++ [(n, ⟨[], false⟩)])
        split
        · exact h
        · exact h.snoc n LU.nil
structure RM.U (s : RM) : Prop where
  v : ∀ x ∈ s.k.vs, V64 x
  kw : WU s.k.ws
  i : ∀ x ∈ s.q.its, V64 x.val
  qw : WU s.q.ws
theorem RM.U.new : RM.new.U := ⟨fun x hx => by
  obtain rfl := List.eq_of_mem_replicate hx
  exact V64.zero, fun x hx => absurd hx List.not_mem_nil, fun x hx => absurd hx List.not_mem_nil, fun x hx => absurd hx List.not_mem_nil⟩
theorem get_U {s : KS} (hv : ∀ x ∈ s.vs, V64 x) (hw : WU s.ws) (n key : Int) : (∀ x ∈ (s.get n key).2.vs, V64 x) ∧ WU (s.get n key).2.ws := by
  have e : (s.get n key).2 = (s.touch n key false).2 := by unfold KS.get; simp only; split <;> rfl
  rw [e, (touch_vals s n key false).1]
  exact ⟨hv, hw.touch n key false⟩
theorem change_U {s : KS} (hv : ∀ x ∈ s.vs, V64 x) (hw : WU s.ws) (n : Int) {c : Ch} (hc : V64 c.val) : (∀ x ∈ (s.change n c).2.vs, V64 x) ∧ WU (s.change n c).2.ws := by
  rw [(change_vals s n c).1]
  refine ⟨hv, ?_⟩
  have ht := hw.touch n c.key true
  unfold KS.change
  simp only
  split
  · exact ht
  · exact ht.put n ((ht.list n).putCh hc)
theorem gone_U {s : KS} (hw : WU s.ws) (n : Int) : WU (s.gone n).ws := hw.del n
theorem kprep_U {s : KS} (hw : WU s.ws) (n : Int) : (s.prepare n).2.vs = s.vs ∧ WU (s.prepare n).2.ws ∧ LU (s.prepare n).1.1 := by
  unfold KS.prepare
  split
  · exact ⟨rfl, hw, LU.nil⟩
  · split
    · exact ⟨rfl, gone_U hw n, LU.nil⟩
    · rename_i v hg
      have hl : LU v.l := hw _ (aget_mem hg)
      split
      · exact ⟨rfl, hw, LU.nil⟩
      · split
        · exact ⟨rfl, gone_U hw n, LU.nil⟩
        · exact ⟨rfl, hw.put n hl, hl⟩
theorem setVs_U : ∀ (l : List Ch) {s : KS}, LU l → (∀ x ∈ s.vs, V64 x) → ∀ x ∈ (l.foldl setV s).vs, V64 x
  | [], _, _, h => h
  | c :: cs, s, hl, h => setVs_U cs (s := setV s c) (fun x hx => hl x (List.mem_cons_of_mem _ hx)) (fun x hx => by
      rcases List.mem_or_eq_of_mem_set hx with hx | rfl
      · exact h x hx
      · exact hl c (List.mem_cons_self ..))
theorem kcommit_U {s : KS} (hv : ∀ x ∈ s.vs, V64 x) (hw : WU s.ws) (n : Int) : (∀ x ∈ (s.commit n).2.vs, V64 x) ∧ WU (s.commit n).2.ws := by
  unfold KS.commit
  split
  · exact ⟨hv, hw⟩
  · refine ⟨setVs_U _ (hw.list n) hv, ?_⟩
    show WU (adel n ((s.listOf n).foldl setV s).ws)
    rw [(setVs_keep (s.listOf n) s).1]
    exact hw.del n
theorem kback_U {s : KS} (hv : ∀ x ∈ s.vs, V64 x) (hw : WU s.ws) (n : Int) : (∀ x ∈ (s.backout n).2.vs, V64 x) ∧ WU (s.backout n).2.ws := by
  unfold KS.backout
  split
  · exact ⟨hv, hw⟩
  · exact ⟨hv, gone_U hw n⟩
theorem krest_U {s : KS} (hv : ∀ x ∈ s.vs, V64 x) (hw : WU s.ws) (n : Int) {l : List Ch} (hl : LU l) : (∀ x ∈ (s.restore n l).2.vs, V64 x) ∧ WU (s.restore n l).2.ws := by
  unfold KS.restore
  split
  · exact ⟨hv, hw⟩
  · split
    · exact ⟨hv, hw⟩
    · split
      · exact ⟨hv, hw⟩
      · split
        · exact ⟨hv, hw⟩
        · refine ⟨hv, ?_⟩
          show WU (if l = [] then s.ws else s.ws ++ [(n, ⟨l, true⟩)])
          split
          · exact hw
          · exact hw.snoc n hl
theorem newI_val : ∀ {l : List Ch} {g : Int} {x : It}, x ∈ newI l g → ∃ c ∈ l, x.val = c.val
  | [], g, x, h => by simp [newI] at h
  | c :: cs, g, x, h => by
    rw [newI] at h
    split at h
    · rcases List.mem_cons.1 h with rfl | h
      · exact ⟨c, by simp, rfl⟩
      · obtain ⟨d, hd, e⟩ := newI_val h
        exact ⟨d, List.mem_cons_of_mem _ hd, e⟩
    · obtain ⟨d, hd, e⟩ := newI_val h
      exact ⟨d, List.mem_cons_of_mem _ hd, e⟩
def IU (L : List It) : Prop := ∀ x ∈ L, V64 x.val
theorem IU.map {L : List It} (h : IU L) {f : It → It} (hf : ∀ x, (f x).val = x.val) : IU (L.map f) := fun x hx => by
  obtain ⟨y, hy, rfl⟩ := List.mem_map.1 hx
  rw [hf]; exact h y hy
theorem IU.mix {L : List It} (h : IU L) {f : It → It} (hf : ∀ x, (f x).val = x.val) (t : Nat) : IU (mixI f L t) := fun x hx => by
  rcases List.mem_append.1 hx with hx | hx
  · exact IU.map (fun y hy => h y (List.mem_of_mem_take hy)) hf x hx
  · exact h x (List.mem_of_mem_drop hx)
theorem free_val (n : Int) (x : It) : (freeI n x).val = x.val := by unfold freeI; split <;> rfl
theorem put_U {s : QS} (hi : IU s.its) (hw : WU s.ws) (n : Int) {v : Int} (hv : V64 v) : IU (s.put n v).2.its ∧ WU (s.put n v).2.ws := by
  unfold QS.put
  split
  · exact ⟨hi, hw⟩
  · split
    · exact ⟨hi, hw⟩
    · exact ⟨hi, hw.note n hv⟩
theorem take_U {s : QS} (hi : IU s.its) (hw : WU s.ws) (n : Int) : IU (s.take n).2.its ∧ WU (s.take n).2.ws := by
  unfold QS.take
  split
  · exact ⟨hi, hw⟩
  · split
    · exact ⟨hi, hw⟩
    · rename_i i hf
      have hx : V64 (s.its.getD i ⟨0, 0, 0⟩).val := by
        rw [List.getD_eq_getElem?_getD]
        cases hg : s.its[i]? with
        | none => exact V64.zero
        | some y => exact hi y (List.mem_of_getElem? hg)
      split
      · exact ⟨hi, hw⟩
      · refine ⟨fun x h => ?_, hw.note n hx⟩
        rcases List.mem_or_eq_of_mem_set h with h | rfl
        · exact hi x h
        · exact hx
theorem qprep_U {s : QS} (hw : WU s.ws) (n : Int) : (s.prepare n).2.its = s.its ∧ (s.prepare n).2.gv = s.gv ∧ WU (s.prepare n).2.ws ∧ LU (s.prepare n).1.1 := by
  unfold QS.prepare
  split
  · exact ⟨rfl, rfl, hw, LU.nil⟩
  · split
    · exact ⟨rfl, rfl, hw, LU.nil⟩
    · rename_i v hg
      have hl : LU v.l := hw _ (aget_mem hg)
      exact ⟨rfl, rfl, hw.put n hl, hl⟩
theorem qcommit_U {s : QS} (hi : IU s.its) (hw : WU s.ws) (n : Int) : IU (s.commit n).2.its ∧ WU (s.commit n).2.ws := by
  unfold QS.commit
  split
  · exact ⟨hi, hw⟩
  · refine ⟨fun x h => ?_, hw.del n⟩
    rcases List.mem_append.1 h with h | h
    · exact hi x (List.mem_filter.1 h).1
    · obtain ⟨c, hc, e⟩ := newI_val h
      rw [e]; exact hw.list n c hc
theorem qback_U {s : QS} (hi : IU s.its) (hw : WU s.ws) (n : Int) : IU (s.backout n).2.its ∧ WU (s.backout n).2.ws := by
  unfold QS.backout
  split
  · exact ⟨hi, hw⟩
  · exact ⟨hi.map (free_val n), hw.del n⟩
theorem qrest_U {s : QS} (hi : IU s.its) (hw : WU s.ws) (n : Int) {l : List Ch} (hl : LU l) : IU (s.restore n l).2.its ∧ WU (s.restore n l).2.ws := by
  unfold QS.restore
  split
  · exact ⟨hi, hw⟩
  · split
    · exact ⟨hi, hw⟩
    · split
      · exact ⟨hi, hw⟩
      · refine ⟨hi.mix (f := tkI n) (fun _ => rfl) _, ?_⟩
        show WU (addW n true l s.ws)
        unfold addW
        split
        · exact hw
        · exact hw.snoc n hl
theorem LU.take {l : List Ch} (h : LU l) (n : Nat) : LU (l.take n) := fun x hx => h x (List.mem_of_mem_take hx)
theorem LU.drop {l : List Ch} (h : LU l) (n : Nat) : LU (l.drop n) := fun x hx => h x (List.mem_of_mem_drop hx)
theorem RM.U.of {k : KS} {q : QS} (h1 : (∀ x ∈ k.vs, V64 x) ∧ WU k.ws) (h2 : IU q.its ∧ WU q.ws) : (RM.mk k q).U := ⟨h1.1, h1.2, h2.1, h2.2⟩
theorem RM.U.get {s : RM} (h : s.U) (n key : Int) : (s.get n key).2.U := by
  unfold RM.get
  split
  · exact h
  · exact .of (get_U h.v h.kw n key) ⟨h.i, h.qw⟩
theorem RM.U.change {s : RM} (h : s.U) (n : Int) {c : Ch} (hc : V64 c.val) : (s.change n c).2.U := by
  unfold RM.change
  split
  · exact h
  · exact .of (change_U h.v h.kw n hc) ⟨h.i, h.qw⟩
theorem RM.U.push {s : RM} (h : s.U) (n : Int) {v : Int} (hv : V64 v) : (s.push n v).2.U := by
  unfold RM.push
  split
  · exact h
  · exact .of ⟨h.v, h.kw⟩ (put_U h.i h.qw n hv)
theorem RM.U.pop {s : RM} (h : s.U) (n : Int) : (s.pop n).2.U := by
  unfold RM.pop
  split
  · exact h
  · exact .of ⟨h.v, h.kw⟩ (take_U h.i h.qw n)
theorem RM.U.prepare {s : RM} (h : s.U) (n : Int) : (s.prepare n).2.U := by
  unfold RM.prepare
  split
  · exact h
  · obtain ⟨a, b, _⟩ := kprep_U h.kw n
    obtain ⟨c, _, d, _⟩ := qprep_U h.qw n
    exact .of ⟨by rw [a]; exact h.v, b⟩ ⟨by rw [c]; exact h.i, d⟩
theorem RM.U.commit {s : RM} (h : s.U) (n : Int) : (s.commit n).2.U := by
  unfold RM.commit
  split
  · exact h
  · exact .of (kcommit_U h.v h.kw n) (qcommit_U h.i h.qw n)
theorem RM.U.backout {s : RM} (h : s.U) (n : Int) : (s.backout n).2.U := by
  unfold RM.backout
  split
  · exact h
  · exact .of (kback_U h.v h.kw n) (qback_U h.i h.qw n)
theorem RM.U.restore {s : RM} (h : s.U) (n : Int) {l : List Ch} (hl : LU l) : (s.restore n l).2.U := by
  have h1 := krest_U h.v h.kw n (hl.take (cutN l))
  have h2 := qrest_U h.i h.qw n (hl.drop (cutN l))
  unfold RM.restore
  split
  · exact h
  · split
    · exact h
    · split
      · exact .of h1 ⟨h.i, h.qw⟩
      · split
        · refine .of ?_ h2
          split
          · exact kback_U h1.1 h1.2 n
          · exact h1
        · exact .of h1 h2
structure ROp.U (o : ROp) : Prop where
  v : V64 o.val
  l : LU o.l
theorem RM.U.call {s : RM} (h : s.U) {o : ROp} (ho : o.U) : (callR s o).2.U := by
  unfold callR
  split
  · exact h.get _ _
  · split
    · exact h.change _ ho.v
    · split
      · exact h.change _ V64.zero
      · split
        · exact h.push _ ho.v
        · split
          · exact h.pop _
          · split
            · exact h.prepare _
            · split
              · exact h.commit _
              · split
                · exact h.backout _
                · split
                  · exact h.restore _ ho.l
                  · exact h
theorem RM.U.fold : ∀ (l : List ROp) {s : RM}, (∀ o ∈ l, o.U) → s.U → (l.foldl stepR s).U
  | [], _, _, h => h
  | o :: l, s, ho, h => RM.U.fold l (fun x hx => ho x (List.mem_cons_of_mem _ hx)) (by
      unfold stepR
      split
      · exact h.call (ho o (List.mem_cons_self ..))
      · exact h)
theorem RM.U.play (l : List ROp) (h : ∀ o ∈ l, o.U) : (playR l).U := RM.U.fold _ (fun o ho => h o (List.mem_of_mem_take ho)) RM.U.new
theorem cutN_app : ∀ (a b : List Ch), (∀ c ∈ a, kvKind c = true) → (∀ c ∈ b, kvKind c = false) → cutN (a ++ b) = a.length
  | [], [], _, _ => rfl
  | [], c :: b, _, h => by
    show (if kvKind c = true then _ else 0) = 0
    rw [if_neg (by rw [h c (by simp)]; simp)]
  | c :: a, b, h1, h2 => by
    show (if kvKind c = true then cutN (a ++ b) + 1 else 0) = a.length + 1
    rw [if_pos (h1 c (by simp)), cutN_app a b (fun x hx => h1 x (List.mem_cons_of_mem _ hx)) h2]
structure PrL (l : List Ch) : Prop where
  kind : ∀ c ∈ l, 1 ≤ c.kind ∧ c.kind ≤ 4
  key : ∀ c ∈ l, 0 ≤ c.key ∧ c.key ≤ 4611686018427387904
  val : LU l
  len : l.length ≤ 48
structure Redo (s : RM) (n : Int) (l : List Ch) (s2 s3 t0 t1 t2 : RM) : Prop where
  pre : s.prepare n = ((l, 0), s2)
  com : s2.commit n = (0, s3)
  prl : PrL l
  rest : t0.restore n l = (0, t1)
  i1 : Go.Proofs.Ytdejbinmnoabeaa.imgR t1 = Go.Proofs.Ytdejbinmnoabeaa.imgR s
  tcom : t1.commit n = (0, t2)
  i2 : Go.Proofs.Ytdejbinmnoabeaa.imgR t2 = Go.Proofs.Ytdejbinmnoabeaa.imgR s3
def loaded (s : RM) : RM := ⟨⟨s.k.vs, s.k.th, [], []⟩, ⟨s.q.its.map zeroI, [], s.q.gv⟩⟩
theorem kprep_list {s : KS} (h : s.Ok) {n : Int} (hn : 1 ≤ n) (hp : prepd n s.ws = false) : (s.prepare n).1.2 = 0 ∧ RW (s.prepare n).1.1 ∧ (s.prepare n).2.listOf n = (s.prepare n).1.1 ∧ (s.prepare n).2.vs = s.vs ∧ (s.prepare n).2.th = s.th := by
  obtain ⟨a, b, c⟩ := prep_facts h (by omega) hp
  refine ⟨a, b, c, ?_⟩
  unfold KS.prepare
  split
  · exact ⟨rfl, rfl⟩
  · split
    · exact ⟨rfl, rfl⟩
    · split
      · exact ⟨rfl, rfl⟩
      · split <;> exact ⟨rfl, rfl⟩
theorem qprep_list {s : QS} (h : s.Ok) {n : Int} (hn : 1 ≤ n) (hp : prepd n s.ws = false) : (s.prepare n).1 = (listOfW n s.ws, 0) ∧ listOfW n (s.prepare n).2.ws = listOfW n s.ws ∧ (s.prepare n).2.its = s.its ∧ (s.prepare n).2.gv = s.gv := by
  have hf : s.fit n = 0 := by unfold QS.fit; rw [if_neg (by omega), if_neg (by rw [hp]; simp)]
  unfold QS.prepare
  rw [if_neg (by simp [hf])]
  cases hg : aget n s.ws with
  | none =>
    have : listOfW n s.ws = [] := listOfW_free hg
    exact ⟨by rw [this], rfl, rfl, rfl⟩
  | some v =>
    have e : listOfW n s.ws = v.l := by unfold listOfW; rw [hg]; rfl
    refine ⟨by rw [e], ?_, rfl, rfl⟩
    show listOfW n (aput n ⟨v.l, true⟩ s.ws) = _
    rw [e]
    unfold listOfW
    rw [aget_put_self _ _ h.keys]
    rfl
theorem redo_of {s : RM} (h : s.Ok) (hu : s.U) {n : Int} (hf : s.fit n = 0) : ∃ l s2 s3 t1 t2, Redo s n l s2 s3 (loaded s) t1 t2 := by
  obtain ⟨hn, hpk, hpq⟩ : 1 ≤ n ∧ prepd n s.k.ws = false ∧ prepd n s.q.ws = false := by
    rcases s.fit_cases n with ⟨_, e⟩ | ⟨_, e, _⟩ | ⟨a, _, b, c⟩
    · rw [hf] at e; cases e
    · rw [hf] at e; cases e
    · exact ⟨a, b, c⟩
  obtain ⟨k0, krw, klist, kvs, kth⟩ := kprep_list h.k hn hpk
  obtain ⟨q0, qlist, qits, qgv⟩ := qprep_list h.q hn hpq
  have hpre : s.prepare n = (((s.k.prepare n).1.1 ++ listOfW n s.q.ws, 0), ⟨(s.k.prepare n).2, (s.q.prepare n).2⟩) := by
    unfold RM.prepare
    rw [if_neg (by rw [hf]; simp), q0]
  have hql := h.q.list_len n
  have hkk : ∀ c ∈ (s.k.prepare n).1.1, kvKind c = true := fun c hc => by
    rcases ((chOk_iff c).1 (krw.1 c hc)).1 with e | ⟨e, _⟩ <;> simp [kvKind, e]
  have hqk : ∀ c ∈ listOfW n s.q.ws, kvKind c = false := fun c hc => by
    rcases hql.2.2 c hc with ⟨e, _⟩ | e <;> simp [kvKind, e]
  have hcut := cutN_app _ _ hkk hqk
  have hR := rest_of h.q hn
  obtain ⟨lk, hkr⟩ := restore_free (vs := s.k.vs) (th := s.k.th) (n := n) (by omega) krw
  have hkeys : ∀ c ∈ listOfW n s.q.ws, 0 ≤ c.key ∧ c.key ≤ 4611686018427387904 := fun c hc => by
    rcases hql.2.2 c hc with ⟨_, e⟩ | e
    · omega
    · have hm : c ∈ takesOf (listOfW n s.q.ws) := List.mem_filter.2 ⟨hc, by simp [e]⟩
      rw [← h.q.held n (by omega)] at hm
      obtain ⟨x, hx, rfl⟩ := List.mem_map.1 hm
      obtain ⟨i, hi, rfl⟩ := List.mem_iff_getElem.1 (List.mem_filter.1 hx).1
      have h1 := h.q.num i _ (List.getElem?_eq_getElem hi)
      have h2 := h.q.g0
      have h3 := h.q.g1
      show 0 ≤ (s.q.its[i]).num ∧ (s.q.its[i]).num ≤ _
      rw [h1]
      omega
  have hklen : (s.k.prepare n).1.1.length ≤ 16 := krw.len
  generalize hkl : (s.k.prepare n).1.1 = kl at *
  generalize hqlE : listOfW n s.q.ws = ql at *
  have hprl : PrL (kl ++ ql) := by
    refine ⟨fun c hc => ?_, fun c hc => ?_, fun c hc => ?_, by rw [List.length_append]; omega⟩
    · rcases List.mem_append.1 hc with hc | hc
      · rcases ((chOk_iff c).1 (krw.1 c hc)).1 with e | ⟨e, _⟩ <;> omega
      · rcases hql.2.2 c hc with ⟨e, _⟩ | e <;> omega
    · rcases List.mem_append.1 hc with hc | hc
      · have := ((chOk_iff c).1 (krw.1 c hc)).2
        omega
      · exact hkeys c hc
    · rcases List.mem_append.1 hc with hc | hc
      · have := (kprep_U hu.kw n).2.2
        rw [hkl] at this
        exact this c hc
      · have := hu.qw.list n
        rw [hqlE] at this
        exact this c hc
  have htk : (kl ++ ql).take (cutN (kl ++ ql)) = kl := by rw [hcut, List.take_left]
  have hdr : (kl ++ ql).drop (cutN (kl ++ ql)) = ql := by rw [hcut, List.drop_left]
  have hany : ql.any kvKind = false := by
    rw [List.any_eq_false]
    intro c hc
    rw [hqk c hc]; simp
  have hrest : (loaded s).restore n (kl ++ ql) = (0, ⟨⟨s.k.vs, s.k.th, if kl = [] then [] else [(n, ⟨kl, true⟩)], lk⟩, ⟨mixI (tkI n) (s.q.its.map zeroI) (takesL ql), addW n true ql [], s.q.gv⟩⟩) := by
    unfold RM.restore
    rw [htk, hdr, if_neg (by omega), if_neg (by rw [hany]; simp)]
    unfold loaded
    simp only
    rw [hkr, hR.rest]
    simp
  have hlist : (⟨s.k.vs, s.k.th, if kl = [] then [] else [(n, ⟨kl, true⟩)], lk⟩ : KS).listOf n = kl := by
    unfold KS.listOf
    show ((aget n (if kl = [] then ([] : List (Int × KW)) else [(n, ⟨kl, true⟩)])).map (·.l)).getD [] = kl
    by_cases q : kl = []
    · rw [if_pos q, q]; rfl
    · rw [if_neg q]; simp [aget]
  have hfit2 : ∀ (x : RM), x.fit n ≠ 1 := fun x e => by
    unfold RM.fit at e
    rw [if_neg (by omega)] at e
    split at e <;> cases e
  have hcm : ∀ (x : RM), x.commit n = (0, ⟨(x.k.commit n).2, (x.q.commit n).2⟩) := fun x => by
    unfold RM.commit
    rw [if_neg (hfit2 _)]
  refine ⟨_, _, _, _, _, ⟨hpre, hcm _, hprl, hrest, ?_, hcm _, ?_⟩⟩
  · show Go.Proofs.Ytdejbinmnoabeaa.Img.mk _ _ _ = Go.Proofs.Ytdejbinmnoabeaa.Img.mk _ _ _
    congr 1
    exact hR.vals
  · have hkc := setVs_congr kl (s := (⟨s.k.vs, s.k.th, if kl = [] then [] else [(n, ⟨kl, true⟩)], lk⟩ : KS)) (t := (s.k.prepare n).2) kvs.symm kth.symm
    have e1 : (KS.commit (⟨s.k.vs, s.k.th, if kl = [] then [] else [(n, ⟨kl, true⟩)], lk⟩ : KS) n).2 = (kl.foldl setV (⟨s.k.vs, s.k.th, if kl = [] then [] else [(n, ⟨kl, true⟩)], lk⟩ : KS)).gone n := by
      unfold KS.commit
      rw [if_neg (by omega), hlist]
    have e2 : ((s.k.prepare n).2.commit n).2 = (kl.foldl setV (s.k.prepare n).2).gone n := by
      unfold KS.commit
      rw [if_neg (by omega), klist]
    have e3 : ((s.q.prepare n).2.commit n).2.its = keptI n s.q.its ++ newI ql s.q.gv ∧ ((s.q.prepare n).2.commit n).2.gv = s.q.gv + putsL ql := by
      unfold QS.commit
      rw [if_neg (by omega)]
      show keptI n (s.q.prepare n).2.its ++ newI (listOfW n (s.q.prepare n).2.ws) (s.q.prepare n).2.gv = _ ∧ (s.q.prepare n).2.gv + (putsL (listOfW n (s.q.prepare n).2.ws) : Int) = _
      rw [qits, qgv, qlist]
      exact ⟨rfl, rfl⟩
    obtain ⟨c1, c2⟩ := hR.com
    show Go.Proofs.Ytdejbinmnoabeaa.Img.mk (Go.Proofs.Ytdejbinmnoabeaa.pairsK (KS.commit _ n).2 16) ((QS.commit _ n).2.its.map (·.val)) ((QS.commit _ n).2.gv + 1) = Go.Proofs.Ytdejbinmnoabeaa.Img.mk (Go.Proofs.Ytdejbinmnoabeaa.pairsK ((s.k.prepare n).2.commit n).2 16) (((s.q.prepare n).2.commit n).2.its.map (·.val)) (((s.q.prepare n).2.commit n).2.gv + 1)
    rw [c1, c2, e1, e2, e3.1, e3.2]
    congr 1
    unfold Go.Proofs.Ytdejbinmnoabeaa.pairsK
    show (fillL (kl.foldl setV _).vs (kl.foldl setV _).th 16).map _ = (fillL (kl.foldl setV _).vs (kl.foldl setV _).th 16).map _
    rw [hkc.1, hkc.2]
theorem redo_bad {s : RM} {n : Int} (hf : s.fit n ≠ 0) : s.prepare n = (([], s.fit n), s) ∧ (s.fit n = 1 ∨ s.fit n = 7) := by
  refine ⟨by unfold RM.prepare; rw [if_pos hf], ?_⟩
  rcases s.fit_cases n with ⟨_, e⟩ | ⟨_, e, _⟩ | ⟨_, e, _⟩
  · exact .inl e
  · exact .inr e
  · exact absurd e hf
end Go.Mine
namespace Go.Proofs.Ytdejbinmnoabeaa.P
open Go.RowKit Go.Mine Go.Proofs.YtdejbinmnoabeaaW.PrintWords Go.Proofs.YtdejbinmnoabeaaW.PrintLast Go.Proofs.YtdejbinmnoabeaaW.PrintMore
set_option linter.unusedVariables false
set_option linter.unusedSimpArgs false
def ofCh (c : Go.Mine.Ch) : S62 := ⟨c.kind, c.key, c.val⟩
theorem of_to (l : List Go.Mine.Ch) : (l.map ofCh).map toCh = l := by
  rw [List.map_map]
  have : (toCh ∘ ofCh) = id := funext (fun c => rfl)
  rw [this, List.map_id]
theorem rowR_of {w : World} {B : Nat} {A : Option Addr} {l : List Go.Mine.Ch} (h : ChAt w B A l) (hp : PrL l) : Go.Mine.RowR (fun _ y cs => cs = encS y ∧ U62 y) w B 3 A (l.map ofCh) := by
  intro i x hx
  rw [List.getElem?_map] at hx
  obtain ⟨c, hc, rfl⟩ := Option.map_eq_some_iff.1 hx
  obtain ⟨b, off, e, hlt, hcell⟩ := h i c hc
  have hm := List.mem_of_getElem? hc
  have hk := hp.key c hm
  have hv := hp.val c hm
  exact ⟨b, off, encS (ofCh c), e, hlt, ⟨rfl, ⟨by show _ ≤ c.key; omega, by show c.key < _; omega, hv.1, hv.2⟩⟩, rfl, hcell⟩
theorem prl_ok {l : List Go.Mine.Ch} (hp : PrL l) : (l.map ofCh).all okC = true ∧ (l.map ofCh).all lowK = true := by
  constructor
  · rw [List.all_eq_true]
    intro x hx
    obtain ⟨c, hc, rfl⟩ := List.mem_map.1 hx
    have h1 := hp.kind c hc
    have h2 := hp.key c hc
    show (decide (1 ≤ c.kind) && decide (c.kind ≤ 4) && decide (0 ≤ c.key)) = true
    rw [decide_eq_true h1.1, decide_eq_true h1.2, decide_eq_true h2.1]
    rfl
  · rw [List.all_eq_true]
    intro x hx
    obtain ⟨c, hc, rfl⟩ := List.mem_map.1 hx
    exact decide_eq_true (hp.key c hc).2
theorem write_list {w : World} {A : Option Addr} {c : Nat} {l : List Go.Mine.Ch} (h : ChAt w w.heap.size A l) (hp : PrL l) (hc : l.length ≤ c) :
    Calls Try.prog 9 #[.slice A l.length c] w fun e w' => ∃ S q nb, e = .returned (.tuple #[.slice S nb q, .int .i64 0]) ∧ Below w.heap.size w w' ∧ (∀ w2, Below w'.heap.size w' w2 → Calls Try.prog 11 #[.slice S nb q] w2 fun e w3 => ∃ S2 q2, e = .returned (.tuple #[.slice S2 l.length q2, .int .i64 0]) ∧ ChAt w3 w3.heap.size S2 l ∧ l.length ≤ q2 ∧ Below w2.heap.size w2 w3) := by
  have hlen := hp.len
  obtain ⟨C0, U0⟩ := chs_of (rowR_of h hp) (by rw [List.length_map]; omega)
  obtain ⟨hok, hlow⟩ := prl_ok hp
  have hwc : writeC (l.map ofCh) = ((l.map ofCh).flatMap encC, 0) := by
    unfold writeC
    rw [if_neg (by rw [List.length_map]; omega), if_pos hok]
  obtain ⟨k9, e9⟩ := write_f (l.map ofCh) U0
  rw [hwc] at e9
  have K9 := res_Write.calls k9 A c (l.map ofCh) _ _ w C0 (by rw [List.length_map]; exact hc) e9
  rw [List.length_map] at K9
  refine K9.mono ?_
  rintro e w1 ⟨v1, rfl, r1, f1⟩
  obtain ⟨S1, q1, rfl⟩ := Kd.R_slice r1
  have R1 := (Kd.R_reads' r1).2
  refine ⟨S1, q1, _, rfl, f1, fun w2 hb => ?_⟩
  have hbt := (enc_bytes (l.map ofCh) U0 hok).1
  have hrb := read_back (l.map ofCh) (by rw [List.length_map]; omega) U0 hok
  rw [hlow] at hrb
  have K11 := read_any S1 q1 _ w2 (Kd.C_below R1.2 hb) R1.1 hbt
  rw [hrb] at K11
  refine K11.mono ?_
  rintro e w3 ⟨v2, rfl, r2, f2⟩
  obtain ⟨S2, q2, rfl⟩ := Kd.R_slice r2
  have R2 := (Kd.R_reads' r2).2.1
  obtain ⟨S3, q3, e3, h3⟩ := ch_of_R r2
  rw [List.length_map] at e3
  simp only [if_true, List.length_map] at e3 R2 ⊢
  injection e3 with x1 x2 x3
  subst x1 x3
  simp only [if_true] at h3
  rw [of_to] at h3
  exact ⟨S2, q2, rfl, h3, R2, f2⟩
end Go.Proofs.Ytdejbinmnoabeaa.P
namespace Go.Mine
set_option linter.unusedVariables false
set_option linter.unusedSimpArgs false
theorem fillP_pre (th : List Bool) (i : Nat) : ∀ d, ∃ r, fillP th (i + d) = fillP th i ++ r
  | 0 => ⟨[], (List.append_nil _).symm⟩
  | d + 1 => by
    obtain ⟨r, hr⟩ := fillP_pre th i d
    rw [← Nat.add_assoc]
    cases ht : th.getD (i + d) false
    · exact ⟨r, by rw [fillP_false ht, hr]⟩
    · exact ⟨r ++ [i + d], by rw [fillP_true ht, hr, List.append_assoc]⟩
theorem fill_get {vs : List Int} {th : List Bool} {i : Nat} (hi : i < 16) (ht : th.getD i false = true) : (fillL vs th 16)[(fillP th i).length]? = some ⟨1, (i : Int), vs.getD i 0⟩ := by
  obtain ⟨r, hr⟩ := fillP_pre th (i + 1) (15 - i)
  rw [show i + 1 + (15 - i) = 16 by omega, fillP_true ht] at hr
  unfold fillL
  rw [hr, List.getElem?_map, List.append_assoc, List.getElem?_append_right (Nat.le_refl _), Nat.sub_self]
  rfl
theorem Filled.next {vs : List Int} {th : List Bool} {t : KS} {c : Ch} : ∀ (d kk : Nat), kk + d = 16 → Filled vs th kk t → (fillL vs th 16)[(fillP th kk).length]? = some c →
    ∃ k, kk ≤ k ∧ k < 16 ∧ th.getD k false = true ∧ c = ⟨1, (k : Int), vs.getD k 0⟩ ∧ Filled vs th k t ∧ (fillP th k).length = (fillP th kk).length
  | 0, kk, hk, h, hc => by
    rw [show kk = 16 by omega, List.getElem?_eq_none (by unfold fillL; rw [List.length_map]; exact Nat.le_refl _)] at hc
    cases hc
  | d + 1, kk, hk, h, hc => by
    cases ht : th.getD kk false
    · have hp := fillP_false ht
      obtain ⟨k, h1, h2, h3, h4, h5, h6⟩ := Filled.next d (kk + 1) (by omega) (h.skip ht) (by rw [hp]; exact hc)
      exact ⟨k, by omega, h2, h3, h4, h5, by rw [h6, hp]⟩
    · have hg := fill_get (vs := vs) (show kk < 16 by omega) ht
      rw [hg] at hc
      exact ⟨kk, Nat.le_refl _, by omega, ht, (Option.some.inj hc).symm, h, rfl⟩
theorem Filled.last {vs : List Int} {th : List Bool} {t : KS} : ∀ (d kk : Nat), kk + d = 16 → Filled vs th kk t → (fillL vs th 16).length ≤ (fillP th kk).length → Filled vs th 16 t
  | 0, kk, hk, h, hl => by
    rw [show kk = 16 by omega] at h
    exact h
  | d + 1, kk, hk, h, hl => by
    cases ht : th.getD kk false
    · exact Filled.last d (kk + 1) (by omega) (h.skip ht) (by rw [fillP_false ht]; exact hl)
    · have hg := fill_get (vs := vs) (show kk < 16 by omega) ht
      rw [List.getElem?_eq_none hl] at hg
      cases hg
end Go.Mine
namespace Go.Proofs.Ytdejbinmnoabeaa
open Go.RowKit Go.Mine Go.Proofs.YtdejbinmnoabeaaW.PrintWords
set_option linter.unusedVariables false
set_option linter.unusedSimpArgs false
variable {F : Nat → Prop} {w : World} {b : Nat} {k : KS} {q : QS} {f0 f1 : Int → Bool}
def XPost (F : Nat → Prop) (w : World) (b : Nat) (r : Int) (k : KS) (q : QS) (f0 f1 : Int → Bool) (e : Ending) (w' : World) : Prop :=
  e = .returned (.int .i64 r) ∧ (∃ F', RX F' w' b k q f0 f1 ∧ K.Grew F F' w) ∧ Fr F w w'
theorem kput_rx (h : RX F w b k q f0 f1) (n key v : Int) :
    Calls Try.prog 43 #[.pointer (some ⟨b, 0, none⟩), .int .i64 n, .int .i64 key, .int .u64 v] w (XPost F w b (k.change n ⟨1, key, v⟩).1 (k.change n ⟨1, key, v⟩).2 q f0 f1) := by
  obtain ⟨FK, Pz, hsub, hk, hst⟩ := h.kv
  refine (K.put_any hk n key v).mono ?_
  rintro e w' ⟨FK', rfl, hk', hg, hf⟩
  exact ⟨rfl, ⟨_, hst w' FK' _ hk' hg hf, grew_or hsub hg⟩, hf.mono hsub⟩
theorem kcommit_rx (h : RX F w b k q f0 f1) (n : Int) :
    Calls Try.prog 49 #[.pointer (some ⟨b, 0, none⟩), .int .i64 n] w (XPost F w b (k.commit n).1 (k.commit n).2 q f0 f1) := by
  obtain ⟨FK, Pz, hsub, hk, hst⟩ := h.kv
  refine (K.commit_any hk n).mono ?_
  rintro e w' ⟨rfl, ⟨FK', hk', hg⟩, hf⟩
  exact ⟨rfl, ⟨_, hst w' FK' _ hk' hg hf, grew_or hsub hg⟩, hf.mono hsub⟩
theorem qload_rx (h : RX F w b k q f0 f1) (A : Option Addr) (vals : List Int) (c : Nat) (next : Int) (hv : UAt w w.heap.size A vals) (hA : vals ≠ [] → ∀ b' off, A = some ⟨b', off, none⟩ → ¬ F b') (hlen : vals.length ≤ 100000000000000000) (hc : vals.length ≤ c) :
    Calls Try.prog 50 #[.pointer (some ⟨b, 34, none⟩), .slice A vals.length c, .int .i64 next] w (XPost F w b (q.load vals next).1 k (q.load vals next).2 f0 f1) := by
  have hqok := h.qok
  obtain ⟨FQ, Z, hsub, hq, hst⟩ := h.qu
  refine (Q.load_any hq hqok.bd A vals c next hv (fun hn b' off e hF => hA hn b' off e (hsub _ hF)) hlen hc).mono ?_
  rintro e w' ⟨rfl, ⟨FQ', hq', hg⟩, hf⟩
  exact ⟨rfl, ⟨_, hst w' FQ' _ hq' (hqok.load vals next) hg hf, grew_or hsub hg⟩, hf.mono hsub⟩
end Go.Proofs.Ytdejbinmnoabeaa
namespace Go.Proofs.Ytdejbinmnoabeaa
open Go.RowKit Go.Mine Go.Proofs.YtdejbinmnoabeaaW.PrintWords
set_option linter.unusedVariables false
set_option linter.unusedSimpArgs false
def Bx (w : World) (bx : Nat) (A1 : Option Addr) (n1 c1 : Nat) (A2 : Option Addr) (n2 c2 : Nat) (nx : Int) : Prop := w.heap[bx]? = some (.cells #[.slice A1 n1 c1, .slice A2 n2 c2, .int .i64 nx] 49 (0, 0))
theorem RowAt.block' {α : Type} {f : α → List Value} {sz B : Nat} {w : World} {A : Option Addr} {l : List α} (h : Q.RowAt f sz w B A l) (hl : l ≠ []) {b off : Nat} (e : A = some ⟨b, off, none⟩) : b < B := by
  obtain ⟨x, hx⟩ : ∃ x, l[0]? = some x := ⟨_, List.getElem?_eq_getElem (List.length_pos_iff.2 hl)⟩
  obtain ⟨b', off', e', hlt, _⟩ := h 0 x hx
  rw [e] at e'
  cases e'
  exact hlt
theorem two_cells {w w' : World} {bp : Nat} {u v : Value} (hb : Below w.heap.size w w') (h : w.cell? ⟨bp, 0, none⟩ = some u ∧ w.cell? ⟨bp, 1, none⟩ = some v) : w'.cell? ⟨bp, 0, none⟩ = some u ∧ w'.cell? ⟨bp, 1, none⟩ = some v := ⟨(hb.cell (World.block_lt_of_cell? _ _ h.1)).trans h.1, (hb.cell (World.block_lt_of_cell? _ _ h.2)).trans h.2⟩
set_option maxRecDepth 100000 in
set_option maxHeartbeats 4000000 in
theorem resload_any {w : World} {v : Value} {s : RM} (hs : s.Ok) (h : ImgAt w w.heap.size v (imgR s)) :
    Calls Try.prog 26 #[v] w fun e w' => ∃ b, e = .returned (.tuple #[.pointer (some ⟨b, 0, none⟩), .int .i64 0]) ∧ (∃ F, RAt F w' b ⟨⟨s.k.vs, s.k.th, [], []⟩, ⟨s.q.its.map zeroI, [], s.q.gv⟩⟩ ∧ ∀ i, F i → w.heap.size ≤ i) ∧ Below w.heap.size w w' := by
  have hld := load_of hs.q
  have hlen := hs.q.sz
  have hgv := hs.q.g0
  have hgv1 := hs.q.g1
  obtain ⟨m, hm⟩ : ∃ m, imgR s = m := ⟨_, rfl⟩
  have hmP : m.P = pairsK s.k 16 := by rw [← hm]; rfl
  have hmL : m.L = s.q.its.map (·.val) := by rw [← hm]; rfl
  have hmN : m.nx = s.q.gv + 1 := by rw [← hm]; rfl
  have hP16 : m.P.length ≤ 16 := by rw [hmP]; exact pairsK_len _ _
  have hL16 : m.L.length ≤ 16 := by rw [hmL, List.length_map]; omega
  rw [hm] at h
  obtain ⟨A1, c1, A2, c2, rfl, hp, hu, l1, l2⟩ := h
  rw [← hmL, ← hmN] at hld
  have hnx : ¬ m.nx = 0 := by rw [hmN]; omega
  have hnx2 : (m.nx == 0) = false := by simpa using hnx
  have HP := hid hp
  have HU := hid hu
  have HLD := hid hld
  have HMP := hid hmP
  have HP16 := hid hP16
  have HL16 := hid hL16
  have HL2 := hid l2
  have HS := hid hs
  have hbx : Bx (w.alloc (.cells #[.slice A1 m.P.length c1, .slice A2 m.L.length c2, .int .i64 m.nx] 49)) w.heap.size A1 m.P.length c1 A2 m.L.length c2 m.nx := (MapKept.heap_alloc w _).1
  have hba : Below w.heap.size w (w.alloc (.cells #[.slice A1 m.P.length c1, .slice A2 m.L.length c2, .int .i64 m.nx] 49)) := (Below.refl _ _).alloc (Nat.le_refl _) _
  have hlt : w.heap.size < (w.alloc (.cells #[.slice A1 m.P.length c1, .slice A2 m.L.length c2, .int .i64 m.nx] 49)).heap.size := by simp
  have HBX := hid hbx
  have HBA := hid hba
  have HLT := hid hlt
  clear hp hu hld hlen hgv hgv1 hm hmP hmL hmN hP16 hL16 hs hbx hba hlt l1 l2 hnx
  go_enter Try.func26, Try.ntmps26
  go_wp2_with fail
  generalize (w.alloc (.cells #[.slice A1 m.P.length c1, .slice A2 m.L.length c2, .int .i64 m.nx] 49)) = wi at *
  refine (new_any wi).mono ?_
  rintro e w1 ⟨rfl, rfl⟩
  have hr1 := new_rat wi
  have hf1 : Below wi.heap.size wi (wi.alloc (.cells nilRes 91)) := (Below.refl _ _).alloc (Nat.le_refl _) _
  have hx1 : Bx (wi.alloc (.cells nilRes 91)) w.heap.size A1 m.P.length c1 A2 m.L.length c2 m.nx := (hf1.block _ HLT.out).trans HBX.out
  have hb1 : Below w.heap.size w (wi.alloc (.cells nilRes 91)) := HBA.out.trans (hf1.mono HBA.out.size)
  have k0 := cell_of_row _ _ 0 _ _ _ hx1
  have HX1 := hid hx1
  have HB1 := hid hb1
  have HR1 := hid hr1
  have hwb : w.heap.size < wi.heap.size := HLT.out
  have HWB := hid hwb
  clear hr1 hf1 hx1 hb1 HBX HBA HLT hwb
  generalize (wi.alloc (.cells nilRes 91)) = w1 at *
  go_wp2_with fail
  generalize hbn : wi.heap.size = b at *
  generalize hbw : w.heap.size = B at *
  have hrx : RX (fun i => i = b) w1 b KS.new QS.new (fun _ => false) (fun _ => false) := RX.marks HR1.out (fun n => rfl) (fun n => rfl)
  have hwB : B < b := HWB.out
  have HWB2 := hid hwB
  have HBW := hid hbw
  clear HR1 HWB hbn hbw hwB k0
  go_loopg [5, 14] (m.P.length + 1) (fun g v5 v14 wr => ∃ (i kk : Nat) (t : KS) (F : Nat → Prop) (la : Int), v5 = .int .i64 la ∧ v14 = .int .i64 i ∧ i ≤ m.P.length ∧ g = m.P.length + 1 - i ∧ kk ≤ 16 ∧ (fillP s.k.th kk).length = i ∧ la < kk ∧ Filled s.k.vs s.k.th kk t ∧ RX F wr b t QS.new (fun _ => false) (fun _ => false) ∧ (∀ j, F j → b ≤ j) ∧ Bx wr B A1 m.P.length c1 A2 m.L.length c2 m.nx ∧ Below B w wr)
  case atStart => exact ⟨0, 0, KS.new, _, -1, rfl, rfl, Nat.zero_le _, rfl, Nat.zero_le _, rfl, by omega, Filled.start _ _, hrx, fun j hj => by rw [hj]; exact Nat.le_refl _, HX1.out, HB1.out⟩
  case round =>
    obtain ⟨i, kk, t, F, la, rfl, rfl, hi, hg, hkk, hfi, hla, hfill, hrx, hF, hbx, hbe⟩ := hrel
    have HG := hid hg
    have HFI := hid hfi
    have HFILL := hid hfill
    have HRX := hid hrx
    have HF := hid hF
    have HBX := hid hbx
    have HBE := hid hbe
    have hpr := HP.out.below hbe
    have HPR := hid hpr
    clear hg hfill hrx hF hbe hpr HX1 HB1
    by_cases h1 : i < m.P.length
    · obtain ⟨c, hc⟩ : ∃ c, (fillL s.k.vs s.k.th 16)[i]? = some c := ⟨_, List.getElem?_eq_getElem (by have := HMP.out; unfold pairsK at this; rw [this, List.length_map] at h1; exact h1)⟩
      obtain ⟨k, hk1, hk2, hk3, hck, hF2, hfl⟩ := Filled.next (16 - kk) kk (by omega) HFILL.out (by rw [hfi]; exact hc)
      have hx : m.P[i]? = some ((k : Int), s.k.vs.getD k 0) := by rw [HMP.out]; unfold pairsK; rw [List.getElem?_map, hc, hck]; rfl
      obtain ⟨pb, po, rfl, hpb, hpc⟩ := HPR.out i _ hx
      have p0 : wr.cell? ⟨pb, po + i * 2, none⟩ = some (.int .i64 (k : Int)) := hpc 0 _ rfl
      have p1 : wr.cell? ⟨pb, po + i * 2 + 1, none⟩ = some (.int .u64 (s.k.vs.getD k 0)) := hpc 1 _ rfl
      have d1 : decide ((k : Int) ≤ la) = false := decide_eq_false (by omega)
      have d2 : decide ((16 : Int) ≤ (k : Int)) = false := decide_eq_false (by omega)
      have HC := hid (And.intro hk3 (And.intro hF2 (And.intro hfl hk2)))
      have hrxa := HRX.out.below ((Below.refl _ _).alloc (Nat.le_refl _) (.cells #[.int .i64 (k : Int), .int .u64 (s.k.vs.getD k 0)] 59) : Below wr.heap.size wr (wr.alloc (.cells #[.int .i64 (k : Int), .int .u64 (s.k.vs.getD k 0)] 59)))
      obtain ⟨vk, hvk⟩ : ∃ vk, s.k.vs.getD k 0 = vk := ⟨_, rfl⟩
      rw [hvk] at p1 hrxa
      have HVK := hid hvk
      have HRXA := hid hrxa
      clear hpc hx hc hck hk3 hF2 hfl hvk hrxa hbx
      have HK := hid (And.intro hk1 (And.intro hk2 hla))
      clear hk1 hk2 hla hkk hfi
      go_wp2_with fail
      have hz := (MapKept.heap_alloc wr (.cells #[.int .i64 (k : Int), .int .u64 vk] 59)).1
      have z0 := cell_of_row _ _ 0 _ _ _ hz
      have z1 := cell_of_row _ _ 1 _ _ _ hz
      have hwa : Below wr.heap.size wr (wr.alloc (.cells #[.int .i64 (k : Int), .int .u64 vk] 59)) := (Below.refl _ _).alloc (Nat.le_refl _) _
      have hBxa : Bx (wr.alloc (.cells #[.int .i64 (k : Int), .int .u64 vk] 59)) B (some ⟨pb, po, none⟩) m.P.length c1 A2 m.L.length c2 m.nx := (hwa.block _ (Q.blk_lt HBX.out)).trans HBX.out
      have hBea : Below B w (wr.alloc (.cells #[.int .i64 (k : Int), .int .u64 vk] 59)) := HBE.out.trans (hwa.mono (by have := Q.blk_lt HBX.out; omega))
      have hnb : ¬ F wr.heap.size := fun q => by have := HRX.out.fb _ q; omega
      generalize (wr.alloc (.cells #[.int .i64 (k : Int), .int .u64 vk] 59)) = wa at *
      generalize wr.heap.size = bp at *
      have K43 : Hid (∀ w', Below wa.heap.size wa w' → Calls Try.prog 43 #[.pointer (some ⟨b, 0, none⟩), .int .i64 1, .int .i64 (k : Int), .int .u64 vk] w' fun e w'' => (∃ r, e = .returned (.int .i64 r)) ∧ (w''.cell? ⟨bp, 0, none⟩ = some (.int .i64 (k : Int)) ∧ w''.cell? ⟨bp, 1, none⟩ = some (.int .u64 vk)) ∧ Hid (∃ F', RX F' w'' b (t.change 1 ⟨1, (k : Int), vk⟩).2 QS.new (fun _ => false) (fun _ => false) ∧ (∀ j, F' j → b ≤ j) ∧ Bx w'' B (some ⟨pb, po, none⟩) m.P.length c1 A2 m.L.length c2 m.nx ∧ Below B w w'')) := hid (fun w' hb => by
        refine (kput_rx (HRXA.out.below hb) 1 (k : Int) vk).mono ?_
        rintro e w'' ⟨rfl, ⟨F', r', g'⟩, f'⟩
        have hbB : ∀ j, F j → b ≤ j := HF.out
        have hBb := HWB2.out
        have hbz := HRXA.out.fb
        have hszB : B ≤ wa.heap.size := by have := Q.blk_lt hBxa; omega
        have y0 := (hb.cell (World.block_lt_of_cell? _ _ z0)).trans z0
        have y1 := (hb.cell (World.block_lt_of_cell? _ _ z1)).trans z1
        refine ⟨⟨_, rfl⟩, ⟨f'.cell y0 hnb, f'.cell y1 hnb⟩, hid ⟨F', r', fun j hj => (g' j hj).elim (hbB j) (fun q => ?_), f'.at_ ((hb.block _ (Q.blk_lt hBxa)).trans hBxa) (fun q => by have := hbB _ q; omega), ?_⟩⟩
        · have h1 := hb.size
          have h3 : b < wa.heap.size := HRXA.out.fb b HRXA.out.bF
          omega
        · exact (hBea.trans (hb.mono hszB)).trans (f'.below (Nat.le_trans hszB hb.size) (fun j hj q => by have := hbB j q; omega)))
      have hS : wa.cell? ⟨bp, 0, none⟩ = some (.int .i64 (k : Int)) ∧ wa.cell? ⟨bp, 1, none⟩ = some (.int .u64 vk) := ⟨z0, z1⟩
      clear hz z0 z1 hwa hBxa hBea hnb HRXA p0 p1 HPR hpb
      go_region_held3 (fun w' => w'.cell? ⟨bp, 0, none⟩ = some (.int .i64 (k : Int)) ∧ w'.cell? ⟨bp, 1, none⟩ = some (.int .u64 vk)) (first | exact two_cells (Q.bd1 _) (by assumption) | exact two_cells (Q.bdN _ _) (by assumption) | assumption) (first
        | (go_at_call 43; refine (K43.out _ (by first | exact Q.bd1 _ | exact Q.bdN _ _ | exact Below.refl _ _)).mono ?_; rintro e w5 ⟨⟨rr, rfl⟩, hS5, HX5⟩))
      all_goals
        obtain ⟨F5, r5, hF5, hx5, hb5⟩ := HX5.out
        obtain ⟨hc1, hc2, hc3, hc4⟩ := HC.out
        have hput := hc2.put hc4 hc1
        rw [HVK.out] at hput
        have hfl : (fillP s.k.th (k + 1)).length = i + 1 := by rw [fillP_true hc1, List.length_append, hc3, HFI.out]; rfl
        have HPUT := hid hput.2
        have HFL := hid hfl
        have HR5 := hid r5
        have HX5' := hid hx5
        have HB5 := hid hb5
        have HF5 := hid hF5
        clear hput hfl r5 hx5 hb5 hF5 hc1 hc2 hc3 hc4 HX5 K43 hS
        have hp16 := HP16.out
        go_wp2_with fail
        go_roundg (m.P.length + 1 - (i + 1))
        case measure => rw [HG.out]; omega
        case rel => exact ⟨i + 1, k + 1, _, F5, (k : Int), rfl, by go_num, by omega, rfl, by have := HK.out; omega, HFL.out, by omega, HPUT.out, HR5.out, HF5.out, HX5'.out, HB5.out⟩
    · have hfl16 := Filled.last (16 - kk) kk (by omega) HFILL.out (by
        have h2 := HMP.out
        unfold pairsK at h2
        have h3 := congrArg List.length h2
        rw [List.length_map] at h3
        omega)
      have hcm := hfl16.commit HS.out.k
      have K49 := kcommit_rx HRX.out 1
      rw [hcm] at K49
      have HK49 := hid K49
      have hBb : B < b := HWB2.out
      have HB2 := hid hBb
      clear hfl16 hcm K49 hfi hkk hla hbx hBb
      go_wp2_with fail
      refine HK49.out.mono ?_
      rintro e w6 ⟨rfl, ⟨F6, r6, g6⟩, f6⟩
      have hBsz : B ≤ wr.heap.size := by have := Q.blk_lt HBX.out; omega
      have hx6 : Bx w6 B A1 m.P.length c1 A2 m.L.length c2 m.nx := f6.at_ HBX.out (fun q => by have := HF.out _ q; have := HB2.out; omega)
      have hb6 : Below B w w6 := HBE.out.trans (f6.below hBsz (fun j hj q => by have := HF.out j q; have := HB2.out; omega))
      have hbwr : b < wr.heap.size := HRX.out.fb b HRX.out.bF
      have hF6 : ∀ j, F6 j → b ≤ j := fun j hj => (g6 j hj).elim (HF.out j) (fun q => by omega)
      have hu6 := HU.out.below hb6
      have HR6 := hid r6
      have HX6 := hid hx6
      have HB6 := hid hb6
      have HF6 := hid hF6
      have HU6 := hid hu6
      have z0 := cell_of_row _ _ 0 _ _ _ hx6
      have z1 := cell_of_row _ _ 1 _ _ _ hx6
      have z2 := cell_of_row _ _ 2 _ _ _ hx6
      have hB6 : B ≤ w6.heap.size := by have := Q.blk_lt hx6; omega
      have K50 : Hid (∀ w', Below w6.heap.size w6 w' → Calls Try.prog 50 #[.pointer (some ⟨b, 34, none⟩), .slice A2 m.L.length c2, .int .i64 m.nx] w' fun e w'' => e = .returned (.int .i64 0) ∧ (w''.cell? ⟨B, 0, none⟩ = some (.slice A1 m.P.length c1) ∧ w''.cell? ⟨B, 1, none⟩ = some (.slice A2 m.L.length c2)) ∧ Hid ((∃ F', RAt F' w'' b ⟨⟨s.k.vs, s.k.th, [], []⟩, ⟨s.q.its.map zeroI, [], s.q.gv⟩⟩ ∧ (∀ j, F' j → B ≤ j)) ∧ Below B w w'')) := hid (fun w' hb => by
        have hll := HL16.out
        have h2 := qload_rx (HR6.out.below hb) A2 m.L c2 m.nx (Q.RowAt.up (Q.RowAt.below HU6.out (hb.mono hB6)) (Nat.le_trans hB6 hb.size)) (fun hn b' off e q => by have := RowAt.block' HU6.out hn e; have := HF6.out _ q; have := HB2.out; omega) (by omega) HL2.out
        rw [HLD.out] at h2
        refine h2.mono ?_
        rintro e w'' ⟨rfl, ⟨F', r', g'⟩, f'⟩
        have h3 : b < w6.heap.size := HR6.out.fb b HR6.out.bF
        have h4 := hb.size
        have y := two_cells hb (And.intro z0 z1)
        have hnB : ¬ F6 B := fun q => by have := HF6.out _ q; have := HB2.out; omega
        refine ⟨rfl, ⟨f'.cell y.1 hnB, f'.cell y.2 hnB⟩, hid ⟨⟨F', RX.marks r' (fun n => rfl) (fun n => rfl), fun j hj => (g' j hj).elim (fun q => by have := HF6.out j q; have := HB2.out; omega) (fun q => by omega)⟩, (HB6.out.trans (hb.mono hB6)).trans (f'.below (Nat.le_trans hB6 hb.size) (fun j hj q => by have := HF6.out j q; have := HB2.out; omega))⟩⟩)
      have hS : w6.cell? ⟨B, 0, none⟩ = some (.slice A1 m.P.length c1) ∧ w6.cell? ⟨B, 1, none⟩ = some (.slice A2 m.L.length c2) := ⟨z0, z1⟩
      clear r6 g6 f6 hx6 hb6 hbwr hF6 hu6 hBsz hB6 HK49
      go_wp2_with fail
      go_region_held3 (fun w' => w'.cell? ⟨B, 0, none⟩ = some (.slice A1 m.P.length c1) ∧ w'.cell? ⟨B, 1, none⟩ = some (.slice A2 m.L.length c2)) (first | exact two_cells (Q.bd1 _) (by assumption) | exact two_cells (Q.bdN _ _) (by assumption) | assumption) (first
        | (go_at_call 50; refine (K50.out _ (by first | exact Q.bd1 _ | exact Q.bdN _ _ | exact Below.refl _ _)).mono ?_; rintro e w7 ⟨rfl, hS7, HZ⟩))
      all_goals
        clear K50 hS
        go_wp2_with fail
        go_ret2
        exact ⟨b, rfl, by rw [HBW.out]; exact HZ.out.1, by rw [HBW.out]; exact HZ.out.2⟩
end Go.Proofs.Ytdejbinmnoabeaa
