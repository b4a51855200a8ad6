/- The plain queue's calls; walks of trothref14.Puts, trothlaw14.long and call. Conditions: the queue reads as QAt says; the lists lie beside it. -/
import Derived.Test.YtmckdoiepmkbbaaQuV
import Derived.Test.YtmckdoiepmkbbaaQuQ
namespace Go.Mine
set_option linter.unusedVariables false
set_option linter.unusedSimpArgs false
theorem front_takes {its : List It} : ∀ (l : List Ch) (f : Nat), f ≤ its.length → frontOk its l f = true → (∀ c ∈ l, (c.kind = 3 ∧ c.key = 0) ∨ c.kind = 4) ∧ takesOf l = ((its.drop f).take (takesL l)).map chOf ∧ f + takesL l ≤ its.length ∧ ∀ x ∈ (its.drop f).take (takesL l), x.by_ = 0
  | [], f, hf, _ => ⟨by simp, by simp [takesOf, takesL], by simpa [takesL] using hf, by simp [takesL]⟩
  | c :: l, f, hf, h => by
    rw [frontOk] at h
    by_cases h1 : (c.kind == 3 && c.key == 0) = true
    · rw [if_pos h1] at h
      obtain ⟨a1, a2, a3, a4⟩ := front_takes l f hf h
      rw [Bool.and_eq_true] at h1
      have k3 : c.kind = 3 := by simpa using h1.1
      have k0 : c.key = 0 := by simpa using h1.2
      have hn : (c.kind == 4) = false := by rw [k3]; rfl
      have e1 : takesL (c :: l) = takesL l := by simp [takesL, hn]
      have e2 : takesOf (c :: l) = takesOf l := by simp [takesOf, List.filter_cons, hn]
      rw [e1, e2]
      refine ⟨fun x hx => ?_, a2, a3, a4⟩
      rcases List.mem_cons.1 hx with rfl | hx
      · exact .inl ⟨k3, k0⟩
      · exact a1 x hx
    · rw [if_neg h1] at h
      by_cases h2 : c.kind = 4 ∧ its[f]? = some ⟨c.key, c.val, 0⟩
      · rw [if_pos h2] at h
        have hfl := (List.getElem?_eq_some_iff.1 h2.2).1
        have hfe := (List.getElem?_eq_some_iff.1 h2.2).2
        obtain ⟨a1, a2, a3, a4⟩ := front_takes l (f + 1) hfl h
        have hy : (c.kind == 4) = true := by rw [h2.1]; rfl
        have e1 : takesL (c :: l) = takesL l + 1 := by simp [takesL, hy]; omega
        have e2 : takesOf (c :: l) = c :: takesOf l := by simp [takesOf, List.filter_cons, hy]
        have e3 : (its.drop f).take (takesL l + 1) = ⟨c.key, c.val, 0⟩ :: (its.drop (f + 1)).take (takesL l) := by rw [List.drop_eq_getElem_cons hfl, List.take_succ_cons, hfe]
        have e4 : c = chOf ⟨c.key, c.val, 0⟩ := by obtain ⟨a, b, d⟩ := c; simp only at h2; simp [chOf, h2.1]
        rw [e1, e2, e3, List.map_cons, ← e4, a2]
        refine ⟨fun x hx => ?_, rfl, by omega, fun x hx => ?_⟩
        · rcases List.mem_cons.1 hx with rfl | hx
          · exact .inr h2.1
          · exact a1 x hx
        · rcases List.mem_cons.1 hx with rfl | hx
          · rfl
          · exact a4 x hx
      · rw [if_neg h2] at h; cases h
theorem listOfW_free {n : Int} {ws : List (Int × KW)} (h : aget n ws = none) : listOfW n ws = [] := by unfold listOfW; rw [h]; rfl
theorem busy_iff {s : QS} {n : Int} : s.busy n = false ↔ aget n s.ws = none := by
  unfold QS.busy
  cases aget n s.ws <;> simp
theorem listOfW_addW {m n : Int} {p : Bool} {l : List Ch} {ws : List (Int × KW)} (h : aget n ws = none) : listOfW m (addW n p l ws) = if m = n then l else listOfW m ws := by
  unfold addW
  by_cases hl : l = []
  · rw [if_pos hl]
    by_cases q : m = n
    · rw [if_pos q, q, listOfW_free h, hl]
    · rw [if_neg q]
  · rw [if_neg hl]
    unfold listOfW
    rw [aget_snoc h]
    by_cases q : m = n
    · rw [if_pos q, if_pos q]; rfl
    · rw [if_neg q, if_neg q]
theorem putsW_addW {n : Int} {p : Bool} {l : List Ch} {ws : List (Int × KW)} : putsW (addW n p l ws) = putsW ws + putsL l := by
  unfold addW
  by_cases hl : l = []
  · rw [if_pos hl, hl]; rfl
  · rw [if_neg hl, putsW_append]; simp [putsW]
theorem room_nonneg {s : QS} (h : s.Ok) : 0 ≤ s.room := by
  have := h.sz
  have := h.g1
  unfold QS.room
  omega
theorem QS.Ok.restore {s : QS} (h : s.Ok) (n : Int) (l : List Ch) : (s.restore n l).2.Ok := by
  unfold QS.restore
  by_cases h1 : n < 1
  · rw [if_pos h1]; exact h
  · rw [if_neg h1]
    by_cases h2 : s.right l = false
    · rw [if_pos h2]; exact h
    · rw [if_neg h2]
      by_cases h3 : s.busy n = true
      · rw [if_pos h3]; exact h
      · rw [if_neg h3]
        have hr : s.right l = true := by simpa using h2
        have hg : aget n s.ws = none := busy_iff.1 (by simpa using h3)
        have hfr := QS.right_front hr
        have hpl : (putsL l : Int) ≤ max s.room 0 := by
          unfold QS.right at hr
          rw [Bool.and_eq_true] at hr
          simpa using hr.2
        have hrn := room_nonneg h
        have hroom : s.room = min (16 - (s.its.length : Int) - putsW s.ws) (4611686018427387904 - (s.gv + 1) - putsW s.ws) := rfl
        obtain ⟨a1, a2, a3, a4⟩ := front_takes l 0 (Nat.zero_le _) hfr
        rw [List.drop_zero] at a2 a4
        have hml := mixI_len (tkI n) s.its (takesL l)
        have hpw : putsW (addW n true l s.ws) = putsW s.ws + putsL l := putsW_addW
        have hmem : ∀ x ∈ addW n true l s.ws, x ∈ s.ws ∨ (x = (n, ⟨l, true⟩) ∧ l ≠ []) := fun x hx => by
          unfold addW at hx
          by_cases hl : l = []
          · rw [if_pos hl] at hx; exact .inl hx
          · rw [if_neg hl] at hx
            rcases List.mem_append.1 hx with q | q
            · exact .inl q
            · exact .inr ⟨List.mem_singleton.1 q, hl⟩
        have hsz := h.sz
        have hg0 := h.g0
        have hg1 := h.g1
        obtain ⟨A, B, hh, e, hA, hB, hp⟩ := h.front
        have hdrop : takesL l ≠ 0 → ∀ x ∈ s.its, x.by_ = 0 := fun ht => by
          have hA0 : A = [] := by
            cases A with
            | nil => rfl
            | cons a A =>
              exfalso
              have h5 := a4 a (by
                rw [e]
                obtain ⟨t, ht'⟩ := Nat.exists_eq_succ_of_ne_zero ht
                rw [ht', List.cons_append, List.take_succ_cons]; simp)
              have h6 := hA a (by simp)
              have h7 := hp (by simp)
              omega
          rw [e, hA0]; exact hB
        refine ⟨?_, fun x hx => ?_, fun x hx => ?_, fun x hx => ?_, ?_, ?_, ?_, ?_, fun m hm => ?_, fun i x hx => ?_⟩
        · show (addW n true l s.ws).Pairwise _
          unfold addW
          by_cases hl : l = []
          · rw [if_pos hl]; exact h.keys
          · rw [if_neg hl]; exact pw_snoc h.keys (fun x hx => aget_none.1 hg x hx)
        · rcases hmem x hx with q | ⟨rfl, _⟩
          · exact h.pos x q
          · show 1 ≤ n; omega
        · rcases hmem x hx with q | ⟨rfl, q⟩
          · exact h.ne x q
          · exact q
        · rcases hmem x hx with q | ⟨rfl, q⟩
          · exact h.ch x q
          · exact a1
        · show (mixI (tkI n) s.its (takesL l)).length + putsW (addW n true l s.ws) ≤ 16
          omega
        · show ((mixI (tkI n) s.its (takesL l)).length : Int) ≤ s.gv
          omega
        · show s.gv + 1 + putsW (addW n true l s.ws) ≤ _
          omega
        · by_cases ht : takesL l = 0
          · refine ⟨A, B, hh, ?_, hA, hB, hp⟩
            show mixI (tkI n) s.its (takesL l) = _
            rw [ht, ← e]; simp [mixI]
          · refine ⟨(s.its.take (takesL l)).map (tkI n), s.its.drop (takesL l), n, rfl, fun x hx => ?_, fun x hx => hdrop ht x (List.mem_of_mem_drop hx), fun _ => by omega⟩
            obtain ⟨y, hy, rfl⟩ := List.mem_map.1 hx
            rfl
        · show (heldI m (mixI (tkI n) s.its (takesL l))).map chOf = takesOf (listOfW m (addW n true l s.ws))
          rw [listOfW_addW hg]
          by_cases ht : takesL l = 0
          · have h0 : mixI (tkI n) s.its (takesL l) = s.its := by rw [ht]; simp [mixI]
            rw [h0, h.held m hm]
            by_cases q : m = n
            · rw [if_pos q, q, listOfW_free hg]
              exact (List.eq_nil_of_length_eq_zero (by rw [takesOf_len]; exact ht)).symm
            · rw [if_neg q]
          · have hz := hdrop ht
            have hold := h.held m hm
            rw [filt_zero hm hz] at hold
            unfold mixI
            rw [heldI_append, filt_zero hm (fun x hx => hz x (List.mem_of_mem_drop hx)), List.append_nil]
            have hall : ∀ x ∈ (s.its.take (takesL l)).map (tkI n), x.by_ = n := fun x hx => by
              obtain ⟨y, hy, rfl⟩ := List.mem_map.1 hx
              rfl
            by_cases q : m = n
            · rw [if_pos q, q, filt_all hall, a2, List.map_map]
              rfl
            · rw [if_neg q, filt_other q hall]
              exact hold
        · show x.num = s.gv - (mixI (tkI n) s.its (takesL l)).length + 1 + i
          rw [hml]
          have hx' : (mixI (tkI n) s.its (takesL l))[i]? = some x := hx
          have hi : i < s.its.length := by rw [← hml]; exact (List.getElem?_eq_some_iff.1 hx').1
          have hy : s.its[i]? = some s.its[i] := List.getElem?_eq_getElem hi
          have hnum : x.num = (s.its[i]).num := by
            unfold mixI at hx'
            by_cases q : i < takesL l
            · rw [List.getElem?_append_left (by simp; omega), List.getElem?_map, List.getElem?_take_of_lt q, hy] at hx'
              simp only [Option.map_some, Option.some.injEq] at hx'
              rw [← hx']; rfl
            · rw [List.getElem?_append_right (by simp; omega), List.getElem?_drop] at hx'
              have e5 : takesL l + (i - ((s.its.take (takesL l)).map (tkI n)).length) = i := by simp; omega
              rw [e5, hy] at hx'
              simp only [Option.some.injEq] at hx'
              rw [hx']
          rw [hnum]
          exact h.num i _ hy
theorem QS.Ok.load {s : QS} (h : s.Ok) (vals : List Int) (next : Int) : (s.load vals next).2.Ok := by
  unfold QS.load
  by_cases h1 : 0 < s.its.length + s.ws.length
  · rw [if_pos h1]; exact h
  · rw [if_neg h1]
    by_cases h2 : 16 < vals.length ∨ next ≤ vals.length ∨ 4611686018427387904 < next
    · rw [if_pos h2]; exact h
    · rw [if_neg h2]
      have hw : s.ws = [] := List.eq_nil_of_length_eq_zero (by omega)
      have hl := loadI_len vals next
      rw [hw]
      have hget : ∀ (i : Nat) (x : It), (loadI vals next)[i]? = some x → x.num = next - vals.length + i ∧ x.by_ = 0 := fun i x hx => by
        unfold loadI at hx
        rw [List.getElem?_map] at hx
        obtain ⟨y, hy, rfl⟩ := Option.map_eq_some_iff.1 hx
        have hy2 := (List.getElem?_eq_some_iff.1 hy)
        obtain ⟨hy3, hy4⟩ := hy2
        rw [List.getElem_range] at hy4
        subst hy4
        exact ⟨rfl, rfl⟩
      have hz : ∀ x ∈ loadI vals next, x.by_ = 0 := fun x hx => by
        obtain ⟨i, hi, rfl⟩ := List.mem_iff_getElem.1 hx
        exact (hget i _ (List.getElem?_eq_getElem hi)).2
      refine ⟨List.Pairwise.nil, by simp, by simp, by simp, ?_, ?_, ?_, ⟨[], loadI vals next, 0, rfl, by simp, hz, by simp⟩, fun m hm => ?_, fun i x hx => ?_⟩
      · show (loadI vals next).length + 0 ≤ 16; omega
      · show ((loadI vals next).length : Int) ≤ next - 1; omega
      · show next - 1 + 1 + (0 : Nat) ≤ _; omega
      · show (heldI m (loadI vals next)).map chOf = []
        rw [filt_zero hm hz]; rfl
      · show x.num = next - 1 - (loadI vals next).length + 1 + i
        rw [hl, (hget i x hx).1]; omega
structure QOp where
  kind : Int
  work : Int
  next : Int
  val : Int
  la : Option Addr
  l : List Ch
  lc : Nat
  va : Option Addr
  v : List Int
  vc : Nat
def callQ (s : QS) (o : QOp) : (Int × List Ch × Int) × QS :=
  if o.kind = 0 then ((0, [], (s.put o.work o.val).1), (s.put o.work o.val).2)
  else if o.kind = 1 then (((s.take o.work).1.1, [], (s.take o.work).1.2), (s.take o.work).2)
  else if o.kind = 2 then ((0, (s.prepare o.work).1.1, (s.prepare o.work).1.2), (s.prepare o.work).2)
  else if o.kind = 3 then ((0, [], (s.commit o.work).1), (s.commit o.work).2)
  else if o.kind = 4 then ((0, [], (s.backout o.work).1), (s.backout o.work).2)
  else if o.kind = 5 then ((0, [], (s.restore o.work o.l).1), (s.restore o.work o.l).2)
  else if o.kind = 6 then ((0, [], (s.load o.v o.next).1), (s.load o.v o.next).2)
  else ((0, [], 0), s)
theorem QS.Ok.call {s : QS} (h : s.Ok) (o : QOp) : (callQ s o).2.Ok := by
  unfold callQ
  split
  · exact h.put _ _
  · split
    · exact h.take _
    · split
      · exact h.prepare _
      · split
        · exact h.commit _
        · split
          · exact h.backout _
          · split
            · exact h.restore _ _
            · split
              · exact h.load _ _
              · exact h
def longQ (o : QOp) : Bool := decide (40 < o.l.length) || decide (40 < o.v.length)
end Go.Mine
namespace Go.Proofs.Ytmckdoiepmkbbaa
open Go.RowKit Go.Mine Go.Proofs.YtmckdoiepmkbbaaW.PrintWords
set_option linter.unusedVariables false
set_option linter.unusedSimpArgs false
set_option maxRecDepth 100000 in
set_option maxHeartbeats 2000000 in
theorem putsr_any (A : Option Addr) (l : List Ch) (c B : Nat) (w : World) (hl : ChAt w B A l) (hn : l.length ≤ 1000000) :
    Calls Try.prog 20 #[.slice A l.length c] w fun e w' => e = .returned (.int .i64 (putsL l)) ∧ w = w' := by
  go_enter Try.func20, Try.ntmps20
  go_wp2_with fail
  go_loopg [3, 4] (l.length + 1) (fun m v3 v8 wr => ∃ i : Nat, v3 = .int .i64 (putsL (l.take i)) ∧ v8 = .int .i64 i ∧ i ≤ l.length ∧ m = l.length + 1 - i ∧ wr = w)
  case atStart => exact ⟨0, rfl, rfl, Nat.zero_le _, rfl, rfl⟩
  case round =>
    obtain ⟨i, rfl, rfl, hi, hm, hw⟩ := hrel
    subst hw
    have HN := hid hm
    clear hm
    by_cases h1 : i < l.length
    · obtain ⟨y, hy⟩ : ∃ y, l[i]? = some y := ⟨_, List.getElem?_eq_getElem h1⟩
      obtain ⟨b', off, rfl, hbb, hcc⟩ := hl i y hy
      have k0 : wr.cell? ⟨b', off + i * 3, none⟩ = some (.int .i64 y.kind) := hcc 0 _ rfl
      have hst := putsL_take hy
      have hle : putsL (l.take i) ≤ 1000000 := by have := putsL_le (l.take i); rw [List.length_take] at this; omega
      have HST := hid hst
      clear hcc hy hst
      generalize putsL (l.take i) = P at *
      cases q : (y.kind == 3)
      · go_wp2_with fail
        go_roundg (l.length + 1 - (i + 1))
        case measure => rw [HN.out]; omega
        case rel => exact ⟨i + 1, by rw [HST.out, q]; rfl, by go_num, by omega, rfl, rfl⟩
      · go_wp2_with fail
        go_roundg (l.length + 1 - (i + 1))
        case measure => rw [HN.out]; omega
        case rel => exact ⟨i + 1, by rw [HST.out, q]; go_num, by go_num, by omega, rfl, rfl⟩
    · have : i = l.length := by omega
      subst this
      have HT := hid (congrArg putsL (List.take_length (l := l)))
      go_wp2_with fail
      go_ret
      exact ⟨by rw [← HT.out]; rfl, rfl⟩
abbrev opV (o : QOp) : Value := .agg #[.int .i64 o.kind, .int .i64 o.work, .int .i64 o.next, .int .u64 o.val, .slice o.la o.l.length o.lc, .slice o.va o.v.length o.vc]
theorem long_any (o : QOp) (w : World) : Calls Try.prog 21 #[opV o] w fun e w' => e = .returned (.bool (longQ o)) ∧ Below w.heap.size w w' := by
  have hba : Below w.heap.size w (w.alloc (.cells #[.int .i64 o.kind, .int .i64 o.work, .int .i64 o.next, .int .u64 o.val, .slice o.la o.l.length o.lc, .slice o.va o.v.length o.vc] 46)) := (Below.refl _ _).alloc (Nat.le_refl _) _
  by_cases h1 : 40 < o.l.length
  · have h1' : 40 < (o.l.length : Int) := by omega
    have HL := hid (show longQ o = true from by simp [longQ, h1])
    clear h1
    go_enter Try.func21, Try.ntmps21
    go_wp2_with fail
    go_ret
    exact ⟨by rw [HL.out]; rfl, hba⟩
  · have h1' : ¬ 40 < (o.l.length : Int) := by omega
    by_cases h2 : 40 < o.v.length
    · have h2' : 40 < (o.v.length : Int) := by omega
      have HL := hid (show longQ o = true from by simp [longQ, h2])
      clear h1 h2
      go_enter Try.func21, Try.ntmps21
      go_wp2_with fail
      go_ret
      exact ⟨by rw [HL.out]; rfl, hba⟩
    · have h2' : ¬ 40 < (o.v.length : Int) := by omega
      have HL := hid (show longQ o = false from by simp [longQ, h1, h2])
      clear h1 h2
      go_enter Try.func21, Try.ntmps21
      go_wp2_with fail
      go_ret
      exact ⟨by rw [HL.out]; rfl, hba⟩
theorem results_tmp3 {fn : Func} {t u v : Tmp} (h : fn.results = #[.tmp t, .tmp u, .tmp v]) (tmps : Array Value) (P : Program) (w : World) :
    (results fn tmps).run P w = .ok (.tuple #[tmps.getD t undef, tmps.getD u undef, tmps.getD v undef]) w := by
  simp [results, h]
def CallPost (F : Nat → Prop) (w : World) (b : Nat) (s : QS) (o : QOp) (e : Ending) (w' : World) : Prop :=
  ∃ v F', e = .returned (.tuple #[.int .u64 (callQ s o).1.1, v, .int .i64 (callQ s o).1.2.2]) ∧ QAt F' w' b (callQ s o).2 ∧ Grew F F' w ∧ Fr F w w' ∧ ChRow w' v (callQ s o).1.2.1 ∧ ∀ k, v.ownBlock = some k → w.heap.size ≤ k ∧ ¬ F' k
/-- A call whose list is nil. -/
theorem CallPost.plain {F F' : Nat → Prop} {w w1 w' : World} {b : Nat} {s : QS} {o : QOp} {a e : Int} {s' : QS} (hc : callQ s o = ((a, [], e), s')) (hk : QAt F' w' b s') (hg : Grew F F' w1) (hf : Fr F w1 w') (hw : Fr (fun _ => False) w w1) :
    CallPost F w b s o (.returned (.tuple #[.int .u64 a, .slice none 0 0, .int .i64 e])) w' := by
  unfold CallPost
  rw [hc]
  exact ⟨_, F', rfl, hk, fun i hi => (hg i hi).imp id (fun q => Nat.le_trans hw.size q), (hw.mono (fun _ q => q.elim)).trans hf (fun i q => .inl q), FR.nil _ _ _, fun k hk => by simp [Value.ownBlock] at hk⟩
set_option maxRecDepth 100000 in
set_option maxHeartbeats 4000000 in
theorem call_any {F : Nat → Prop} {w : World} {b : Nat} {s : QS} (h : QAt F w b s) (hok : s.Ok) (o : QOp) (hl : o.kind = 5 → ChAt w w.heap.size o.la o.l ∧ (o.l ≠ [] → Beside F o.la) ∧ o.l.length ≤ 1000)
    (hv : o.kind = 6 → UAt w w.heap.size o.va o.v ∧ (o.v ≠ [] → Beside F o.va) ∧ o.v.length ≤ o.vc ∧ o.v.length ≤ 100000000000000000) :
    Calls Try.prog 22 #[.pointer (some ⟨b, 0, none⟩), .agg #[.int .i64 o.kind, .int .i64 o.work, .int .i64 o.next, .int .u64 o.val, .slice o.la o.l.length o.lc, .slice o.va o.v.length o.vc]] w (CallPost F w b s o) := by
  have hbd := hok.bd
  have hwl := hok.ws_le
  have hsz := hok.sz
  have fa : Fr (fun _ => False) w (w.alloc (.cells #[.int .i64 o.kind, .int .i64 o.work, .int .i64 o.next, .int .u64 o.val, .slice o.la o.l.length o.lc, .slice o.va o.v.length o.vc] 46)) := (Fr.refl _ w).alloc _
  have ba : Below w.heap.size w (w.alloc (.cells #[.int .i64 o.kind, .int .i64 o.work, .int .i64 o.next, .int .u64 o.val, .slice o.la o.l.length o.lc, .slice o.va o.v.length o.vc] 46)) := (Below.refl _ _).alloc (Nat.le_refl _) _
  have ha := h.below ba
  have HL := hid hl
  have HV := hid hv
  have HBA := hid ba
  have HBD := hid hbd
  clear hl hv h ba hbd hok
  go_enter Try.func22, Try.ntmps22
  cases q0 : (o.kind == 0)
  · cases q1 : (o.kind == 1)
    · cases q2 : (o.kind == 2)
      · cases q3 : (o.kind == 3)
        · cases q4 : (o.kind == 4)
          · cases q5 : (o.kind == 5)
            · cases q6 : (o.kind == 6)
              · have n0 : ¬ o.kind = 0 := by simpa using q0
                have n1 : ¬ o.kind = 1 := by simpa using q1
                have n2 : ¬ o.kind = 2 := by simpa using q2
                have n3 : ¬ o.kind = 3 := by simpa using q3
                have n4 : ¬ o.kind = 4 := by simpa using q4
                have n5 : ¬ o.kind = 5 := by simpa using q5
                have n6 : ¬ o.kind = 6 := by simpa using q6
                have HC := hid (show callQ s o = _ from by unfold callQ; rw [if_neg n0, if_neg n1, if_neg n2, if_neg n3, if_neg n4, if_neg n5, if_neg n6])
                clear n0 n1 n2 n3 n4 n5 n6
                go_wp2_with fail
                (try simp only [Exit.inBlock, Exit.then]); refine bodyPost_ret (results_tmp3 rfl _ _ _) rfl ?_
                exact CallPost.plain HC.out ha (Grew.refl _ _) (Fr.refl _ _) fa
              · have n0 : ¬ o.kind = 0 := by simpa using q0
                have n1 : ¬ o.kind = 1 := by simpa using q1
                have n2 : ¬ o.kind = 2 := by simpa using q2
                have n3 : ¬ o.kind = 3 := by simpa using q3
                have n4 : ¬ o.kind = 4 := by simpa using q4
                have n5 : ¬ o.kind = 5 := by simpa using q5
                have p6 : o.kind = 6 := by simpa using q6
                have HC := hid (show callQ s o = _ from by unfold callQ; rw [if_neg n0, if_neg n1, if_neg n2, if_neg n3, if_neg n4, if_neg n5, if_pos p6])
                have hv6 := HV.out p6
                have HT := hid (load_any ha HBD.out o.va o.v o.vc o.next ((hv6.1.below HBA.out).up HBA.out.size) (fun q b off e => hv6.2.1 q b off e) hv6.2.2.2 hv6.2.2.1)
                clear n0 n1 n2 n3 n4 n5 p6 hv6
                go_wp2_with fail
                refine HT.out.mono ?_
                rintro e w1 ⟨rfl, ⟨F1, h1, g1⟩, f1⟩
                go_wp2_with fail
                (try simp only [Exit.inBlock, Exit.then]); refine bodyPost_ret (results_tmp3 rfl _ _ _) rfl ?_
                exact CallPost.plain HC.out h1 g1 f1 fa
            · have n0 : ¬ o.kind = 0 := by simpa using q0
              have n1 : ¬ o.kind = 1 := by simpa using q1
              have n2 : ¬ o.kind = 2 := by simpa using q2
              have n3 : ¬ o.kind = 3 := by simpa using q3
              have n4 : ¬ o.kind = 4 := by simpa using q4
              have p5 : o.kind = 5 := by simpa using q5
              have HC := hid (show callQ s o = _ from by unfold callQ; rw [if_neg n0, if_neg n1, if_neg n2, if_neg n3, if_neg n4, if_pos p5])
              have hl5 := HL.out p5
              have HT := hid (restore_any ha HBD.out o.work o.la o.l o.lc ((hl5.1.below HBA.out).up HBA.out.size) hl5.2.1 hl5.2.2 (by omega) (by omega))
              clear n0 n1 n2 n3 n4 p5 hl5
              go_wp2_with fail
              refine HT.out.mono ?_
              rintro e w1 ⟨rfl, ⟨F1, h1, g1⟩, f1⟩
              go_wp2_with fail
              (try simp only [Exit.inBlock, Exit.then]); refine bodyPost_ret (results_tmp3 rfl _ _ _) rfl ?_
              exact CallPost.plain HC.out h1 g1 f1 fa
          · have n0 : ¬ o.kind = 0 := by simpa using q0
            have n1 : ¬ o.kind = 1 := by simpa using q1
            have n2 : ¬ o.kind = 2 := by simpa using q2
            have n3 : ¬ o.kind = 3 := by simpa using q3
            have p4 : o.kind = 4 := by simpa using q4
            have HC := hid (show callQ s o = _ from by unfold callQ; rw [if_neg n0, if_neg n1, if_neg n2, if_neg n3, if_pos p4])
            have HT := hid (backout_any ha HBD.out o.work)
            clear n0 n1 n2 n3 p4
            go_wp2_with fail
            refine HT.out.mono ?_
            rintro e w1 ⟨rfl, ⟨F1, h1, g1⟩, f1⟩
            go_wp2_with fail
            (try simp only [Exit.inBlock, Exit.then]); refine bodyPost_ret (results_tmp3 rfl _ _ _) rfl ?_
            exact CallPost.plain HC.out h1 g1 f1 fa
        · have n0 : ¬ o.kind = 0 := by simpa using q0
          have n1 : ¬ o.kind = 1 := by simpa using q1
          have n2 : ¬ o.kind = 2 := by simpa using q2
          have p3 : o.kind = 3 := by simpa using q3
          have HC := hid (show callQ s o = _ from by unfold callQ; rw [if_neg n0, if_neg n1, if_neg n2, if_pos p3])
          have HT := hid (commit_any ha HBD.out o.work)
          clear n0 n1 n2 p3
          go_wp2_with fail
          refine HT.out.mono ?_
          rintro e w1 ⟨rfl, ⟨F1, h1, g1⟩, f1⟩
          go_wp2_with fail
          (try simp only [Exit.inBlock, Exit.then]); refine bodyPost_ret (results_tmp3 rfl _ _ _) rfl ?_
          exact CallPost.plain HC.out h1 g1 f1 fa
      · have n0 : ¬ o.kind = 0 := by simpa using q0
        have n1 : ¬ o.kind = 1 := by simpa using q1
        have p2 : o.kind = 2 := by simpa using q2
        have HC := hid (show callQ s o = _ from by unfold callQ; rw [if_neg n0, if_neg n1, if_pos p2])
        have HT := hid (prepare_any ha HBD.out o.work)
        clear n0 n1 p2
        go_wp2_with fail
        refine HT.out.mono ?_
        rintro e w1 ⟨v, rfl, ⟨F1, h1, g1, o1⟩, r1, f1⟩
        go_wp2_with fail
        (try simp only [Exit.inBlock, Exit.then]); refine bodyPost_ret (results_tmp3 rfl _ _ _) rfl ?_
        unfold CallPost
        rw [HC.out]
        exact ⟨v, F1, rfl, h1, fun i hi => (g1 i hi).imp id (fun q => Nat.le_trans fa.size q), (fa.mono (fun _ q => q.elim)).trans f1 (fun i q => .inl q), r1, fun k hk => ⟨Nat.le_trans fa.size (o1 k hk).1, (o1 k hk).2⟩⟩
    · have n0 : ¬ o.kind = 0 := by simpa using q0
      have p1 : o.kind = 1 := by simpa using q1
      have HC := hid (show callQ s o = _ from by unfold callQ; rw [if_neg n0, if_pos p1])
      have HT := hid (take_any ha HBD.out o.work)
      clear n0 p1
      go_wp2_with fail
      refine HT.out.mono ?_
      rintro e w1 ⟨rfl, ⟨F1, h1, g1⟩, f1⟩
      go_wp2_with fail
      (try simp only [Exit.inBlock, Exit.then]); refine bodyPost_ret (results_tmp3 rfl _ _ _) rfl ?_
      exact CallPost.plain HC.out h1 g1 f1 fa
  · have p0 : o.kind = 0 := by simpa using q0
    have HC := hid (show callQ s o = _ from by unfold callQ; rw [if_pos p0])
    have HT := hid (put_any ha HBD.out o.work o.val)
    clear  p0
    go_wp2_with fail
    refine HT.out.mono ?_
    rintro e w1 ⟨rfl, ⟨F1, h1, g1⟩, f1⟩
    go_wp2_with fail
    (try simp only [Exit.inBlock, Exit.then]); refine bodyPost_ret (results_tmp3 rfl _ _ _) rfl ?_
    exact CallPost.plain HC.out h1 g1 f1 fa
end Go.Proofs.Ytmckdoiepmkbbaa
