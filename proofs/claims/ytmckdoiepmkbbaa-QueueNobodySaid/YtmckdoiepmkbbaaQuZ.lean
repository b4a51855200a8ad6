/- Walk of trothlaw14.QueueKeeps: it answers true. Condition: the list of calls came in. -/
import Derived.Test.YtmckdoiepmkbbaaQuY
namespace Go.Mine
set_option linter.unusedVariables false
set_option linter.unusedSimpArgs false
theorem kept_held (n : Int) (its : List It) : (keptI n its).length + (heldI n its).length = its.length := by
  unfold keptI heldI
  induction its with
  | nil => rfl
  | cons x its ih =>
    rw [List.filter_cons, List.filter_cons]
    cases (x.by_ == n)
    · simp only [Bool.not_false, if_true, Bool.false_eq_true, if_false, List.length_cons]; omega
    · simp only [Bool.not_true, if_true, Bool.false_eq_true, if_false, List.length_cons]; omega
theorem newI_get (l : List Ch) : ∀ (g : Int) (i : Nat) (y : Ch), l[i]? = some y → (y.kind == 3) = true → ((newI l g).map (·.val))[putsL (l.take i)]? = some y.val := by
  induction l with
  | nil => intro g i y h; simp at h
  | cons c l ih =>
    intro g i y h hk
    cases i with
    | zero =>
      simp at h
      subst h
      rw [newI, if_pos hk]
      rfl
    | succ i =>
      rw [List.getElem?_cons_succ] at h
      rw [newI, List.take_succ_cons, putsL]
      by_cases q : (c.kind == 3) = true
      · rw [if_pos q, if_pos q, Nat.add_comm, List.map_cons, List.getElem?_cons_succ]
        exact ih _ i y h hk
      · rw [if_neg q, if_neg q, Nat.zero_add]
        exact ih _ i y h hk
/-- What a prepare tells, and what the commit behind it makes. -/
structure Kept (s : QS) (n : Int) : Prop where
  its : (s.prepare n).2.its = s.its
  gv : (s.prepare n).2.gv = s.gv
  com : (s.prepare n).2.commit n = (0, ⟨keptI n s.its ++ newI (s.prepare n).1.1 s.gv, adel n (s.prepare n).2.ws, s.gv + putsL (s.prepare n).1.1⟩)
  took : (keptI n s.its).length + takesL (s.prepare n).1.1 = s.its.length
  ch : ∀ c ∈ (s.prepare n).1.1, (c.kind = 3 ∧ c.key = 0) ∨ c.kind = 4
  len : (s.prepare n).1.1.length ≤ 40
  puts : putsL (s.prepare n).1.1 ≤ 16
  list : (s.prepare n).1.1 = listOfW n s.ws
theorem QS.Ok.list_len {s : QS} (h : s.Ok) (n : Int) : (listOfW n s.ws).length ≤ 32 ∧ putsL (listOfW n s.ws) ≤ 16 ∧ ∀ c ∈ listOfW n s.ws, (c.kind = 3 ∧ c.key = 0) ∨ c.kind = 4 := by
  unfold listOfW
  cases hg : aget n s.ws with
  | none => simp [putsL]
  | some v =>
    have hm := aget_mem hg
    have h1 := h.sz
    have h5 := h.takes_le hm
    have h6 := len_split (h.ch _ hm)
    have h7 := putsW_mem hm
    simp only [Option.map_some, Option.getD_some]
    simp only at h5 h6 h7
    exact ⟨by omega, by omega, h.ch _ hm⟩
theorem kept_of {s : QS} (h : s.Ok) {n : Int} (he : (s.prepare n).1.2 = 0) : Kept s n := by
  have hl := h.list_len n
  by_cases hf : s.fit n = 0
  · obtain ⟨hn, hp⟩ := fit_pos hf
    have hh := h.held n (by omega)
    have hkh := kept_held n s.its
    have hlen := congrArg List.length hh
    rw [List.length_map, takesOf_len] at hlen
    have key : (s.prepare n).2.its = s.its ∧ (s.prepare n).2.gv = s.gv ∧ (s.prepare n).1.1 = listOfW n s.ws ∧ listOfW n (s.prepare n).2.ws = listOfW n s.ws := by
      unfold QS.prepare
      rw [if_neg (by simp [hf])]
      cases hg : aget n s.ws with
      | none => exact ⟨rfl, rfl, by unfold listOfW; rw [hg]; rfl, rfl⟩
      | some v =>
        refine ⟨rfl, rfl, by unfold listOfW; rw [hg]; rfl, ?_⟩
        show listOfW n (aput n ⟨v.l, true⟩ s.ws) = _
        unfold listOfW
        rw [aget_aput h.keys, if_pos rfl, hg]; rfl
    obtain ⟨k1, k2, k3, k4⟩ := key
    refine ⟨k1, k2, ?_, ?_, ?_, ?_, ?_, k3⟩
    · rw [QS.commit, if_neg (by omega), k1, k2, k4, k3]
    · rw [k3]; omega
    · rw [k3]; exact hl.2.2
    · rw [k3]; omega
    · rw [k3]; exact hl.2.1
  · exfalso
    unfold QS.prepare at he
    rw [if_pos hf] at he
    exact hf he
theorem prepare_err {s : QS} {n : Int} (hn : ¬ n < 1) : (s.prepare n).1.2 = 0 ∨ (s.prepare n).1.2 = 7 := by
  unfold QS.prepare
  by_cases hf : s.fit n = 0
  · rw [if_neg (by simp [hf])]
    cases aget n s.ws <;> exact .inl rfl
  · rw [if_pos hf]
    unfold QS.fit at hf ⊢
    rw [if_neg hn] at hf ⊢
    cases hp : prepd n s.ws with
    | true => exact .inr rfl
    | false => exact .inl rfl
end Go.Mine
namespace Go.Proofs.Ytmckdoiepmkbbaa
open Go.RowKit Go.Mine Go.Proofs.YtmckdoiepmkbbaaW.PrintWords
set_option linter.unusedVariables false
set_option linter.unusedSimpArgs false
set_option maxRecDepth 100000 in
set_option maxHeartbeats 4000000 in
theorem keeps_any (A : Option Addr) (ops : List QOp) (c : Nat) (n : Int) (w : World) (hl : OpsAt w w.heap.size A ops) :
    Calls Try.prog 4 #[.slice A ops.length c, .int .i64 n] w fun e w' => e = .returned (.bool true) ∧ Below w.heap.size w w' := by
  go_enter Try.func4, Try.ntmps4
  go_wp2_with fail
  refine (played_any A ops c _ w (Nat.le_refl _) hl).mono ?_
  rintro e w1 ⟨b, rfl, t1, f1⟩
  have hok := QS.Ok.play ops
  generalize playQ ops = s at *
  clear hl
  by_cases hn : n < 1
  · go_wp2_with fail
    refine (alive_any _).mono ?_
    rintro e w2 ⟨rfl, f2⟩
    go_wp2_with fail
    go_ret
    exact ⟨rfl, f1.trans (f2.mono f1.size)⟩
  · have HP := hid (prepare_stl t1 hok.bd n)
    go_wp2_with fail
    refine HP.out.mono ?_
    rintro e w2 ⟨A2, c2, rfl, t2, hc2, f2⟩
    rcases prepare_err (s := s) (n := n) (by omega) with he | he
    · have hk := kept_of hok he
      have hok2 := hok.prepare n
      rw [he]
      obtain ⟨q1, q2, q3, q4, q5, q6, q7, -⟩ := hk
      generalize (s.prepare n).1.1 = pl at *
      generalize (s.prepare n).2 = s2 at *
      have hit : s.its.length ≤ 16 := by have := hok.sz; omega
      have hvl : s2.its.length = s.its.length := by rw [q1]
      have HV := hid (values_st t2.st (by omega))
      rw [hvl] at HV
      clear HP
      go_wp2_with fail
      refine HV.out.mono ?_
      rintro e w3 ⟨A3, c3, rfl, _, _, f3⟩
      have t3 := t2.below f3
      have HC := hid (commit_stl t3 hok2.bd n)
      have hcom1 := congrArg Prod.fst q3
      have hcom2 := congrArg Prod.snd q3
      rw [hcom1, hcom2] at HC
      clear HV t2
      go_wp2_with fail
      refine HC.out.mono ?_
      rintro e w4 ⟨rfl, t4, f4⟩
      have hlen4 : (keptI n s.its ++ newI pl s.gv).length = (keptI n s.its).length + putsL pl := by rw [List.length_append, newI_len]
      have HV4 := hid (values_st t4.st (by show (keptI n s.its ++ newI pl s.gv).length ≤ _; omega))
      simp only [hlen4] at HV4
      obtain ⟨N, hN⟩ : ∃ N, N = (keptI n s.its).length + putsL pl := ⟨_, rfl⟩
      rw [← hN] at HV4
      clear HC t3
      go_wp2_with fail
      refine HV4.out.mono ?_
      rintro e w5 ⟨A5, c5, rfl, hr5, _, f5⟩
      have t5 := t4.below f5
      have hb5 : Below w.heap.size w w5 := (((f1.trans f2).trans (f3.mono (f1.trans f2).size)).trans f4).trans (f5.mono (((f1.trans f2).trans (f3.mono (f1.trans f2).size)).trans f4).size)
      have hat5 : UAt w5 w5.heap.size A5 ((keptI n s.its ++ newI pl s.gv).map (·.val)) := by
        obtain ⟨A', c', e', _, hat⟩ := hr5.at_
        injection e' with e1 e2 e3
        rw [e1]; exact hat
      have hch := t5.at_
      have HPT := hid (putsr_any A2 pl c2 _ w5 hch (by omega))
      have HAT := hid hat5
      have HCH := hid hch
      have Q5 := hid q5
      generalize hK : (keptI n s.its).length = K at *
      have HK := hid hK
      generalize hP : putsL pl = P at *
      have HPP := hid hP
      generalize hL : s.its.length = L at *
      have hw1 : wrap64 ((N : Int) - (P : Int)) = (K : Int) := by rw [hN]; unfold wrap64; omega
      have hN16 : N ≤ 100 := by have := q4; omega
      have HN2 := hid hN
      have HQ4 := hid q4
      clear HV4 t4 hr5 hat5 hch q1 q2 q3 q5 hcom1 hcom2 hlen4 hK hP hL hvl he q4 t1 hN
      go_wp2_with fail
      refine HPT.out.mono ?_
      rintro e w6 ⟨rfl, rfl⟩
      go_wp2_with fail
      go_loopg [10, 11, 12] (pl.length + 1) (fun m v10 v11 v12 wr => ∃ i J : Nat, J = K + putsL (pl.take i) ∧ v10 = .int .i64 (takesL (pl.take i)) ∧ v11 = .int .i64 J ∧ v12 = .int .i64 i ∧ i ≤ pl.length ∧ m = pl.length + 1 - i ∧ Below w5.heap.size w5 wr)
      case atStart => exact ⟨0, K, rfl, rfl, by have := HN2.out; exact congrArg (Value.int .i64) (by omega), rfl, Nat.zero_le _, rfl, Below.refl _ _⟩
      case round =>
        obtain ⟨i, J, hJ, rfl, rfl, rfl, hi, hm, hb⟩ := hrel
        have HJ := hid hJ
        have HN := hid hm
        clear hm hJ
        by_cases h1 : i < pl.length
        · obtain ⟨y, hy⟩ : ∃ y, pl[i]? = some y := ⟨_, List.getElem?_eq_getElem h1⟩
          obtain ⟨b', off, rfl, hbb, hcc⟩ := (HCH.out.below hb) i y hy
          have k0 : wr.cell? ⟨b', off + i * 3, none⟩ = some (.int .i64 y.kind) := hcc 0 _ rfl
          have k2 : wr.cell? ⟨b', off + i * 3 + 2, none⟩ = some (.int .u64 y.val) := hcc 2 _ rfl
          have hp := putsL_take hy
          have ht := takesL_take hy
          have hyc := Q5.out y (List.mem_of_getElem? hy)
          have hsp := putsL_le (pl.take i)
          have hsl : takesL (pl.take i) ≤ pl.length := by
            have h2 := len_split (l := pl.take i) (fun c hc => Q5.out c (List.mem_of_mem_take hc))
            rw [List.length_take] at h2; omega
          rw [List.length_take] at hsp
          have HPS := hid hp
          have HTS := hid ht
          rcases hyc with ⟨hk3, _⟩ | hk4
          · have hle : putsL (pl.take i) + 1 ≤ P := by
              have h2 : putsL (pl.take (i + 1)) ≤ putsL pl := by
                have h3 := putsL_append (pl.take (i + 1)) (pl.drop (i + 1))
                rw [List.take_append_drop] at h3
                omega
              rw [hp, hk3, HPP.out] at h2
              simpa using h2
            have hval : ((keptI n s.its ++ newI pl s.gv).map (·.val))[K + putsL (pl.take i)]? = some y.val := by
              rw [List.map_append, List.getElem?_append_right (by rw [List.length_map, HK.out]; omega), List.length_map, HK.out, Nat.add_sub_cancel_left]
              exact newI_get _ _ _ _ hy (by rw [hk3]; rfl)
            obtain ⟨b6, off6, rfl, hb6, hcc6⟩ := (HAT.out.below hb) _ _ hval
            have k6 : wr.cell? ⟨b6, off6 + J, none⟩ = some (.int .u64 y.val) := by have := hcc6 0 _ rfl; rw [HJ.out]; simpa using this
            obtain ⟨kd, ky, vl⟩ := y
            simp only at hk3
            subst hk3
            simp only at *
            clear hcc hcc6 hy hval hp ht
            generalize putsL (pl.take i) = X at *
            generalize takesL (pl.take i) = Y at *
            have hJN : J < N := by rw [HJ.out, HN2.out]; omega
            have g1 : decide ((J : Int) < 0) = false := by simp
            have g2 : decide ((N : Int) ≤ (J : Int)) = false := by simp; omega
            have g2' : decide (N ≤ J) = false := by simp; omega
            have g3 : (J : Int) < (N : Int) := by omega
            have g4 : (vl != vl) = false := by simp
            have hz : (0 : Int) ≤ (J : Int) := by omega
            have hJ9 : J ≤ 100 := by omega
            clear hJN
            go_wp2_with fail
            go_quiet (fail)
            go_wp2_with fail
            go_roundg (pl.length + 1 - (i + 1))
            case measure => rw [HN.out]; omega
            case rel => exact ⟨i + 1, J + 1, by rw [HPS.out, HJ.out]; rfl, by rw [HTS.out]; rfl, by go_num, by go_num, by omega, rfl, hb.trans ((bdN _ _).mono hb.size)⟩
          · obtain ⟨kd, ky, vl⟩ := y
            simp only at hk4
            subst hk4
            simp only at *
            clear hcc hy hp ht
            generalize putsL (pl.take i) = X at *
            generalize takesL (pl.take i) = Y at *
            go_wp2_with fail
            go_roundg (pl.length + 1 - (i + 1))
            case measure => rw [HN.out]; omega
            case rel => exact ⟨i + 1, J, by rw [HPS.out, HJ.out]; rfl, by rw [HTS.out]; go_num, rfl, by go_num, by omega, rfl, hb⟩
        · have hil : i = pl.length := by omega
          subst hil
          have e1 : takesL (pl.take pl.length) = takesL pl := by rw [List.take_length]
          have e2 : putsL (pl.take pl.length) = P := by rw [List.take_length]; exact HPP.out
          have hJN : J = N := by rw [HJ.out, HN2.out, e2]
          subst hJN
          rw [e1]
          have HPR := hid (fun w' (f : Below wr.heap.size wr w') => putsr_any A2 pl c2 _ w' ((HCH.out.below hb).below (f.mono hb.size)) (by omega))
          rw [HPP.out] at HPR
          have hq4 := HQ4.out
          generalize takesL pl = Tk at *
          have w1 : wrap64 ((L : Int) - (Tk : Int)) = L - Tk := by unfold wrap64; omega
          have w2 : wrap64 ((L : Int) - (Tk : Int) + (P : Int)) = L - Tk + P := by unfold wrap64; omega
          have w3 : ((J : Int) == (L : Int) - Tk + P) = true := by have := HN2.out; simp; omega
          clear e1 e2 hq4 hw1
          go_wp2_with fail
          refine (alive_any _).mono ?_
          rintro e w7 ⟨rfl, f7⟩
          go_wp2_with fail
          refine (HPR.out w7 f7).mono ?_
          rintro e w8 ⟨rfl, rfl⟩
          go_wp2_with fail
          go_ret
          exact ⟨by first | rfl | simp, (hb5.trans (hb.mono hb5.size)).trans (f7.mono (Nat.le_trans hb5.size hb.size))⟩
    · rw [he]
      go_wp2_with fail
      refine (alive_any _).mono ?_
      rintro e w3 ⟨rfl, f3⟩
      go_wp2_with fail
      go_ret
      exact ⟨rfl, (f1.trans f2).trans (f3.mono (f1.trans f2).size)⟩
end Go.Proofs.Ytmckdoiepmkbbaa
