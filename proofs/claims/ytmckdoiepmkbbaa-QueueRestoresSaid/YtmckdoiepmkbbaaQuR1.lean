/- Walk of trothlaw14.QueueRestores: it answers true. Condition: the list of calls came in. -/
import Derived.Test.YtmckdoiepmkbbaaQuZ
import Derived.Test.YtmckdoiepmkbbaaQuB1
namespace Go.Mine
set_option linter.unusedVariables false
set_option linter.unusedSimpArgs false
def zeroI (x : It) : It := ⟨x.num, x.val, 0⟩
theorem front_of {its : List It} : ∀ (l : List Ch) (f : Nat), (∀ c ∈ l, (c.kind = 3 ∧ c.key = 0) ∨ c.kind = 4) → takesOf l = ((its.drop f).take (takesL l)).map chOf → (∀ x ∈ its, x.by_ = 0) → frontOk its l f = true
  | [], f, _, _, _ => rfl
  | c :: l, f, h1, h2, h3 => by
    rw [frontOk]
    rcases h1 c (by simp) with ⟨k3, k0⟩ | k4
    · rw [if_pos (by rw [k3, k0]; rfl)]
      have hn : (c.kind == 4) = false := by rw [k3]; rfl
      have e1 : takesL (c :: l) = takesL l := by simp [takesL, hn]
      have e2 : takesOf (c :: l) = takesOf l := by simp [takesOf, List.filter_cons, hn]
      rw [e1, e2] at h2
      exact front_of l f (fun x hx => h1 x (List.mem_cons_of_mem _ hx)) h2 h3
    · have hy : (c.kind == 4) = true := by rw [k4]; rfl
      have e1 : takesL (c :: l) = takesL l + 1 := by simp [takesL, hy]; omega
      have e2 : takesOf (c :: l) = c :: takesOf l := by simp [takesOf, List.filter_cons, hy]
      rw [e1, e2] at h2
      cases hd : its.drop f with
      | nil => rw [hd] at h2; simp at h2
      | cons x xs =>
        rw [hd, List.take_succ_cons, List.map_cons] at h2
        injection h2 with q1 q2
        have hf : f < its.length := by
          apply Classical.byContradiction
          intro hf
          rw [List.drop_eq_nil_of_le (by omega)] at hd
          cases hd
        have hx : its[f]? = some x := by
          have := List.getElem?_drop (xs := its) (i := f) (j := 0)
          rw [hd] at this
          simpa using this.symm
        have hxs : its.drop (f + 1) = xs := by
          have := List.drop_eq_getElem_cons hf
          rw [hd] at this
          injection this with _ q
          exact q.symm
        have hx0 : x.by_ = 0 := h3 x (List.mem_of_getElem? hx)
        have hxe : its[f]? = some ⟨c.key, c.val, 0⟩ := by
          rw [hx, q1]
          obtain ⟨a, b, d⟩ := x
          simp only at hx0
          subst hx0
          rfl
        rw [if_neg (by rw [k4]; intro q; rw [Bool.and_eq_true] at q; exact absurd q.1 (by decide)), if_pos ⟨k4, hxe⟩]
        exact front_of l (f + 1) (fun x hx => h1 x (List.mem_cons_of_mem _ hx)) (by rw [hxs]; exact q2) h3
theorem load_of {s : QS} (h : s.Ok) : QS.new.load (s.its.map (·.val)) (s.gv + 1) = (0, ⟨s.its.map zeroI, [], s.gv⟩) := by
  have h1 := h.sz
  have h2 := h.g0
  have h3 := h.g1
  unfold QS.load
  rw [if_neg (by simp [QS.new]), if_neg (by rw [List.length_map]; omega)]
  congr 1
  have e : loadI (s.its.map (·.val)) (s.gv + 1) = s.its.map zeroI := by
    apply List.ext_getElem?
    intro i
    unfold loadI
    rw [List.length_map, List.getElem?_map, List.getElem?_map]
    by_cases hi : i < s.its.length
    · rw [List.getElem?_range hi]
      have hx : s.its[i]? = some s.its[i] := List.getElem?_eq_getElem hi
      have hn := h.num i _ hx
      rw [hx]
      simp only [Option.map_some]
      congr 1
      unfold zeroI
      rw [hn]
      congr 1
      · omega
      · simp [List.getD_eq_getElem?_getD, hi]
    · rw [List.getElem?_eq_none (by simpa using hi), List.getElem?_eq_none (by omega)]
      rfl
  rw [e]
  simp [QS.new]
structure Restd (s : QS) (n : Int) (l : List Ch) : Prop where
  rest : (⟨s.its.map zeroI, [], s.gv⟩ : QS).restore n l = (0, ⟨mixI (tkI n) (s.its.map zeroI) (takesL l), addW n true l [], s.gv⟩)
  ok : (⟨mixI (tkI n) (s.its.map zeroI) (takesL l), addW n true l [], s.gv⟩ : QS).Ok
  busy : (⟨mixI (tkI n) (s.its.map zeroI) (takesL l), addW n true l [], s.gv⟩ : QS).busy n = decide (0 < l.length)
  vals : (mixI (tkI n) (s.its.map zeroI) (takesL l)).map (·.val) = s.its.map (·.val)
  com : ((⟨mixI (tkI n) (s.its.map zeroI) (takesL l), addW n true l [], s.gv⟩ : QS).commit n).2.its.map (·.val) = (keptI n s.its ++ newI l s.gv).map (·.val) ∧ ((⟨mixI (tkI n) (s.its.map zeroI) (takesL l), addW n true l [], s.gv⟩ : QS).commit n).2.gv = s.gv + putsL l
  back : ((⟨mixI (tkI n) (s.its.map zeroI) (takesL l), addW n true l [], s.gv⟩ : QS).backout n).2.its.map (·.val) = s.its.map (·.val) ∧ ((⟨mixI (tkI n) (s.its.map zeroI) (takesL l), addW n true l [], s.gv⟩ : QS).backout n).2.gv = s.gv
theorem vals_mix (f : It → It) (hf : ∀ x, (f x).val = x.val) (L : List It) (t : Nat) : (mixI f L t).map (·.val) = L.map (·.val) := by
  unfold mixI
  rw [List.map_append, List.map_map]
  have : (L.take t).map ((fun x => x.val) ∘ f) = (L.take t).map (fun x => x.val) := List.map_congr_left (fun x _ => hf x)
  rw [this, ← List.map_append, List.take_append_drop]
theorem vals_map (f : It → It) (hf : ∀ x, (f x).val = x.val) (L : List It) : (L.map f).map (·.val) = L.map (·.val) := by
  rw [List.map_map]
  exact List.map_congr_left (fun x _ => hf x)
theorem rest_of {s : QS} (h : s.Ok) {n : Int} (hn : 1 ≤ n) : Restd s n (listOfW n s.ws) := by
  have hl := h.list_len n
  have hh := h.held n (by omega)
  obtain ⟨A, B, hd, e, hA, hB, hp⟩ := h.front
  have hheld : heldI n s.its = s.its.take (takesL (listOfW n s.ws)) ∧ keptI n s.its = s.its.drop (takesL (listOfW n s.ws)) := by
    have hlen := congrArg List.length hh
    rw [List.length_map, takesOf_len] at hlen
    rw [← hlen, e, held_front hA hB (by omega), kept_front hn hA hB]
    by_cases q : hd = n
    · rw [if_pos q, if_pos q]; simp
    · rw [if_neg q, if_neg q]; simp
  have hz : ∀ x ∈ s.its.map zeroI, x.by_ = 0 := fun x hx => by
    obtain ⟨y, _, rfl⟩ := List.mem_map.1 hx
    rfl
  have htk : takesOf (listOfW n s.ws) = (((s.its.map zeroI).drop 0).take (takesL (listOfW n s.ws))).map chOf := by
    rw [← hh, hheld.1, List.drop_zero, ← List.map_take, List.map_map]
    rfl
  generalize hpl : listOfW n s.ws = l at *
  have hfo : frontOk (s.its.map zeroI) l 0 = true := front_of l 0 hl.2.2 htk hz
  have hpw : putsL l ≤ putsW s.ws := by
    rw [← hpl]
    have := putsW_adel (n := n) h.keys
    omega
  have h1 := h.sz
  have h2 := h.g0
  have h3 := h.g1
  have hr : (⟨s.its.map zeroI, [], s.gv⟩ : QS).right l = true := by
    unfold QS.right
    rw [hfo, Bool.true_and]
    unfold QS.room
    simp only [List.length_map, putsW]
    simp
    omega
  have hrest : (⟨s.its.map zeroI, [], s.gv⟩ : QS).restore n l = (0, ⟨mixI (tkI n) (s.its.map zeroI) (takesL l), addW n true l [], s.gv⟩) := by
    unfold QS.restore
    rw [if_neg (by omega), if_neg (by rw [hr]; simp), if_neg (by simp [QS.busy, aget])]
  have hok2 : (⟨s.its.map zeroI, [], s.gv⟩ : QS).Ok := by
    have := QS.Ok.load QS.Ok.new (s.its.map (·.val)) (s.gv + 1)
    rw [load_of h] at this
    exact this
  have hok3 := hok2.restore n l
  rw [hrest] at hok3
  have hlist : listOfW n (addW n true l []) = l := by rw [listOfW_addW rfl, if_pos rfl]
  refine ⟨hrest, hok3, ?_, ?_, ?_, ?_⟩
  · unfold QS.busy addW
    by_cases q : l = []
    · simp [q, aget]
    · rw [if_neg q]
      have : 0 < l.length := List.length_pos_iff.2 q
      simp [aget, this]
  · rw [vals_mix (tkI n) (fun _ => rfl), vals_map zeroI (fun _ => rfl)]
  · unfold QS.commit
    rw [if_neg (by omega)]
    simp only [hlist]
    refine ⟨?_, trivial⟩
    rw [List.map_append, List.map_append]
    congr 1
    have hk : keptI n (mixI (tkI n) (s.its.map zeroI) (takesL l)) = (s.its.map zeroI).drop (takesL l) := by
      have := kept_front (A := ((s.its.map zeroI).take (takesL l)).map (tkI n)) (B := (s.its.map zeroI).drop (takesL l)) (h := n) hn (fun x hx => by
        obtain ⟨y, _, rfl⟩ := List.mem_map.1 hx
        rfl) (fun x hx => hz x (List.mem_of_mem_drop hx))
      rw [if_pos rfl] at this
      exact this
    rw [hk, hheld.2, ← List.map_drop, vals_map zeroI (fun _ => rfl)]
  · unfold QS.backout
    rw [if_neg (by omega)]
    refine ⟨?_, rfl⟩
    show ((mixI (tkI n) (s.its.map zeroI) (takesL l)).map (freeI n)).map (·.val) = _
    rw [vals_map (freeI n) (fun x => by unfold freeI; split <;> rfl), vals_mix (tkI n) (fun _ => rfl), vals_map zeroI (fun _ => rfl)]
end Go.Mine
namespace Go.Proofs.Ytmckdoiepmkbbaa
open Go.RowKit Go.Mine Go.Proofs.YtmckdoiepmkbbaaW.PrintWords
set_option linter.unusedVariables false
set_option linter.unusedSimpArgs false
theorem vals_low {B : Nat} {w : World} {b : Nat} {s : QS} (h : St B w b s) (hok : s.Ok) {L : List Int} {N : Nat} (hL : s.its.map (·.val) = L) (hN : L.length = N) : Calls Try.prog 15 #[.pointer (some ⟨b, 0, none⟩)] w fun e w' => ∃ A c, e = .returned (.slice A N c) ∧ UAt w' w'.heap.size A L ∧ N ≤ c ∧ (∀ k off, A = some ⟨k, off, none⟩ → w.heap.size ≤ k) ∧ Below w.heap.size w w' := by
  have hl : s.its.length = N := by rw [← hN, ← hL, List.length_map]
  refine (values_st h (by have := hok.sz; omega)).mono ?_
  rintro e w' ⟨A, c, rfl, hr, ho, hb⟩
  obtain ⟨A', c', e', hc, hat⟩ := hr.at_
  injection e' with q1 q2 q3
  rw [← q1, hL] at hat
  rw [List.length_map] at hc
  subst hl
  exact ⟨A, c, rfl, hat, by rw [q3]; exact hc, fun k off e => ho k (by rw [e]; rfl), hb⟩
theorem TwoQ.loadv {B : Nat} {w0 w : World} {b1 b2 : Nat} {s1 s2 : QS} (h : TwoQ B w0 b1 s1 b2 s2 none []) (hbe : Below w0.heap.size w0 w) (hb : s2.Bd) {A : Option Addr} {L : List Int} {N c : Nat} (hv : UAt w w.heap.size A L) (hN : L.length = N) (hA : ∀ k off, A = some ⟨k, off, none⟩ → w0.heap.size ≤ k) (hc : N ≤ c) (hn : N ≤ 100) (next : Int) :
    Calls Try.prog 11 #[.pointer (some ⟨b2, 0, none⟩), .slice A N c, .int .i64 next] w fun e w' => e = .returned (.int .i64 (s2.load L next).1) ∧ TwoQ B w' b1 s1 b2 (s2.load L next).2 none [] ∧ Below B w w' := by
  subst hN
  obtain ⟨⟨F, G, h1, h2, h3, h4, h5⟩, h6, h7⟩ := h
  have hlt := h2.fb
  have hlt1 := h1.fb
  have h7' := Nat.le_trans h7 hbe.size
  refine (load_any (h2.below hbe) hb A L c next hv (fun _ b' off e q => by have := hA b' off e; have := hlt b' q; omega) (by omega) hc).mono ?_
  rintro e w' ⟨rfl, ⟨G', hk, hg⟩, hf⟩
  have := St.of h7' h4 hk hg hf
  refine ⟨rfl, ⟨⟨F, G', (h1.below hbe).fr hf (fun i hi q => (h3 i hi).2 q), hk, fun i hi => ⟨(h3 i hi).1, fun q => ?_⟩, fun i hi => (hg i hi).elim (h4 i) (fun q => Nat.le_trans h7' q), fun q => absurd rfl q⟩, nilAt _ _, this.1.2⟩, this.2⟩
  rcases hg i q with r | r
  · exact (h3 i hi).2 r
  · have := hlt1 i hi
    have := hbe.size
    omega
set_option maxRecDepth 100000 in
set_option maxHeartbeats 8000000 in
theorem restores_any (A : Option Addr) (ops : List QOp) (c : Nat) (n : Int) (bo : Bool) (w : World) (hl : OpsAt w w.heap.size A ops) :
    Calls Try.prog 9 #[.slice A ops.length c, .int .i64 n, .bool bo] w fun e w' => e = .returned (.bool true) ∧ Below w.heap.size w w' := by
  go_enter Try.func9, Try.ntmps9
  go_wp2_with fail
  refine (played_any A ops c _ w (Nat.le_refl _) hl).mono ?_
  rintro e w1 ⟨b, rfl, t1, f1⟩
  go_wp2_with fail
  refine (new_st w1).mono ?_
  rintro e w2 ⟨b2, rfl, t2, f2⟩
  have hok := QS.Ok.play ops
  generalize playQ ops = s0 at *
  have tt := TwoQ.of t1 f2 t2
  have hb2 := f1.trans (f2.mono f1.size)
  clear hl t1 t2
  by_cases hn : n < 1
  · have hn' : (decide (n < 1)) = true := by simpa using hn
    go_wp2_with fail
    refine (alive_any _).mono ?_
    rintro e w3 ⟨rfl, f3⟩
    go_wp2_with fail
    go_ret
    exact ⟨by first | rfl | simp [hn], hb2.trans (f3.mono hb2.size)⟩
  · have hn1 : 1 ≤ n := by omega
    have hld := load_of hok
    have hrst := rest_of hok hn1
    have HN1 := hid hn1
    obtain ⟨L, hL⟩ : ∃ L, s0.its.map (·.val) = L := ⟨_, rfl⟩
    obtain ⟨N, hN⟩ : ∃ N, L.length = N := ⟨_, rfl⟩
    have hN0 : N ≤ 16 := by have := hok.sz; rw [← hN, ← hL, List.length_map]; omega
    rw [hL] at hld
    have HL := hid hL
    have HNN := hid hN
    have C1 := hid (vals_low tt.fst hok hL hN)
    have HLD := hid hld
    have HRS := hid hrst
    clear hL hN hld hrst hn1
    go_wp2_with fail
    refine C1.out.mono ?_
    rintro e w3 ⟨A3, c3, rfl, u3, hc3, ho3, f3⟩
    have t3 := tt.below f3
    have hb3 := hb2.trans (f3.mono hb2.size)
    have C2 := hid (next_st t3.fst hok.bd)
    have C3 := hid (tt.loadv f3 QS.Ok.new.bd u3 HNN.out ho3 hc3 (by omega) (s0.gv + 1))
    rw [HLD.out] at C3
    clear C1 tt t3
    go_wp2_with fail
    refine C2.out.mono ?_
    rintro e w4 ⟨rfl, rfl⟩
    go_wp2_with fail
    refine C3.out.mono ?_
    rintro e w5 ⟨rfl, t5, f5⟩
    have hb5 := hb3.trans f5
    have C4 := hid (t5.prepare hok.bd n)
    clear C2 C3 u3
    rcases prepare_err (s := s0) (n := n) (by have := HN1.out; omega) with he | he
    · have hk := kept_of hok he
      have hok2 := hok.prepare n
      have hlist := hk.list
      rw [he] at C4
      obtain ⟨q1, q2, q3, q4, q5, q6, q7, -⟩ := hk
      rw [hlist] at C4 q3 q6 q7
      have hoks := QS.Ok.load QS.Ok.new L (s0.gv + 1)
      rw [HLD.out] at hoks
      have hvp : (s0.prepare n).2.its.map (·.val) = L := by rw [q1]; exact HL.out
      have HVP := hid hvp
      have hcm3 := hok2.commit n
      rw [q3] at hcm3
      have hbk : ((s0.prepare n).2.backout n) = (0, ((s0.prepare n).2.backout n).2) := by unfold QS.backout; rw [if_neg (by have := HN1.out; omega)]
      have hbkv : ((s0.prepare n).2.backout n).2.its.map (·.val) = L ∧ ((s0.prepare n).2.backout n).2.gv = s0.gv := by
        unfold QS.backout
        rw [if_neg (by have := HN1.out; omega)]
        exact ⟨by show ((s0.prepare n).2.its.map (freeI n)).map (·.val) = L; rw [vals_map (freeI n) (fun x => by unfold freeI; split <;> rfl)]; exact hvp, q2⟩
      have hok4 := hok2.backout n
      have hrs := HRS.out
      generalize hpl : listOfW n s0.ws = pl at *
      generalize (s0.prepare n).2 = s1 at *
      obtain ⟨s3, hs3⟩ : ∃ s3 : QS, s3 = ⟨mixI (tkI n) (s0.its.map zeroI) (takesL pl), addW n true pl [], s0.gv⟩ := ⟨_, rfl⟩
      obtain ⟨r1, r2, r3, r4, r5, r6⟩ := hrs
      rw [← hs3] at r1 r2 r3 r5 r6
      have hv3 : s3.its.map (·.val) = L := by rw [hs3]; exact r4.trans HL.out
      have hc3e : (s3.commit n) = (0, (s3.commit n).2) := by unfold QS.commit; rw [if_neg (by have := HN1.out; omega)]
      have hb3e : (s3.backout n) = (0, (s3.backout n).2) := by unfold QS.backout; rw [if_neg (by have := HN1.out; omega)]
      have hokc := r2.commit n
      have hokb := r2.backout n
      obtain ⟨L2, hL2⟩ : ∃ L2, (keptI n s0.its ++ newI pl s0.gv).map (·.val) = L2 := ⟨_, rfl⟩
      rw [hL2] at r5
      have HV3 := hid hv3
      have HR2 := hid r2
      have HR1 := hid r1
      have HBK := hid hbk
      have HBKV := hid hbkv
      have HC3E := hid hc3e
      have HB3E := hid hb3e
      have HOKC := hid hokc
      have HOKB := hid hokb
      have HR5 := hid r5
      have HR6 := hid r6
      have HOK2 := hid hok2
      have HOK4 := hid hok4
      have HCM3 := hid hcm3
      have HOKS := hid hoks
      have HQ3 := hid q3
      have HL2 := hid hL2
      have HB3 := hid r3
      have hr6 := r6
      rw [show ((s3.backout n).2.its.map (·.val) = s0.its.map (·.val)) = ((s3.backout n).2.its.map (·.val) = L) by rw [HL.out]] at hr6
      have HR6' := hid hr6
      clear hlist q1 q2 q3 q4 q5 r1 r2 r3 r4 r5 r6 hs3 hv3 hc3e hb3e hokc hokb hL2 hbk hbkv hok2 hok4 hcm3 hoks hvp HRS he hr6 hpl
      go_wp2_with fail
      refine C4.out.mono ?_
      rintro e w6 ⟨A6, c6, rfl, t6, hc6, f6⟩
      have hb6 := hb5.trans f6
      have C5 := hid (t6.op2 (f := 29) (args := #[.pointer (some ⟨b2, 0, none⟩), .int .i64 n, .slice A6 pl.length c6]) (P := fun e => e = .returned (.int .i64 0)) (s' := s3) (fun G h1 _ hA => by
        have := restore_any h1 HOKS.out.bd n A6 pl c6 t6.at_ hA (by omega) (by simp) (by simp [putsW])
        rw [HR1.out] at this
        exact this))
      clear C4 t5
      go_wp2_with fail
      refine C5.out.mono ?_
      rintro e w7 ⟨rfl, t7, f7⟩
      have hb7 := hb6.trans f7
      have C6 := hid (busy_st t7.snd (by have := HR2.out.ws_le; omega) n)
      rw [HB3.out] at C6
      have C7 := hid (vals_st t7.snd HR2.out HV3.out HNN.out)
      clear C5 t6
      generalize hpz : decide (0 < pl.length) = pz at *
      have hpz' : decide (0 < (pl.length : Int)) = pz := by rw [← hpz, decide_eq_decide]; omega
      have hpx : decide (pl.length = 0) = !pz := by rw [← hpz, ← decide_not, decide_eq_decide]; omega
      have hpl0 : pz = false → pl.length = 0 := fun q => by rw [q] at hpz; simpa using hpz
      have hpl1 : pz = true → 0 < pl.length := fun q => by rw [q] at hpz; simpa using hpz
      clear hpz
      have hall : Calls Try.prog 15 #[.pointer (some ⟨b2, 0, none⟩)] w7 fun e w' => ∃ A c, e = .returned (.slice A N c) ∧ UAt w' w'.heap.size A L ∧ Below w7.heap.size w7 w' := C7.out
      clear hall
      cases pz
      all_goals
        have hplz := hpl0
        have hply := hpl1
        simp only [forall_const, reduceCtorEq, false_implies] at hplz hply
        clear hpl0 hpl1
        go_wp2_with fail
        refine C6.out.mono ?_
        rintro e w8 ⟨rfl, rfl⟩
        go_wp2_with fail
        refine C7.out.mono ?_
        rintro e w9 ⟨A9, c9, rfl, u9, f9⟩
        have t9 := t7.below f9
        have hb9 := hb7.trans (f9.mono hb7.size)
        have C8 := hid (vals_st t9.fst HOK2.out HVP.out HNN.out)
        clear C6 C7
        go_wp2_with fail
        refine C8.out.mono ?_
        rintro e wa ⟨Aa, ca, rfl, ua, fa⟩
        have ta := t9.below fa
        have hba := hb9.trans (fa.mono hb9.size)
        have C9 := hid (same_n (c := c9) (c' := ca) HNN.out (u9.up2 fa) ua (by omega))
        clear C8 t9 u9 ua
        go_wp2_with fail
        refine C9.out.mono ?_
        rintro e wb ⟨rfl, qb, rfl⟩
        have tb := ta.below (bdN wa qb)
        have hbb := hba.trans ((bdN wa qb).mono hba.size)
        generalize wa.drewN qb = wb at *
        clear C9 ta
        cases bo
        case false =>
          have D1 := hid (tb.op (f := 28) (args := #[.pointer (some ⟨b, 0, none⟩), .int .i64 n]) (P := fun e => e = .returned (.int .i64 0)) (s' := (s1.backout n).2) (fun F h1 _ _ => by have := backout_any h1 HOK2.out.bd n; rw [HBK.out] at this; exact this))
          go_wp2_with fail
          refine D1.out.mono ?_
          rintro e wc ⟨rfl, tc, fc⟩
          have hbc := hbb.trans fc
          have D2 := hid (tc.op2 (f := 28) (args := #[.pointer (some ⟨b2, 0, none⟩), .int .i64 n]) (P := fun e => e = .returned (.int .i64 0)) (s' := (s3.backout n).2) (fun F h1 _ _ => by have := backout_any h1 HR2.out.bd n; rw [HB3E.out] at this; exact this))
          clear D1 tb
          go_wp2_with fail
          refine D2.out.mono ?_
          rintro e wd ⟨rfl, td, fd⟩
          have hbd := hbc.trans fd
          clear D2 tc
          have hoka := HOK4.out
          have hokd := HOKB.out
          have hva := HBKV.out.1
          have hvb := HR6'.out.1
          have hga : (s1.backout n).2.gv = (s3.backout n).2.gv := by rw [HBKV.out.2, HR6'.out.2]
          generalize (s1.backout n).2 = sa at *
          generalize (s3.backout n).2 = sb at *
          obtain ⟨L3, hL3⟩ : ∃ L3, L3 = L := ⟨_, rfl⟩
          rw [← hL3] at hva hvb
          obtain ⟨N3, hN3⟩ : ∃ N3, L3.length = N3 := ⟨_, rfl⟩
          have hN30 : N3 ≤ 16 := by have := hoka.sz; rw [← hN3, ← hva, List.length_map]; omega
          have HVA := hid hva
          have HVB := hid hvb
          have HN3 := hid hN3
          have HGA := hid hga
          clear hva hvb hN3 hga hL3
          go_wp2_with fail
          refine (alive_any _).mono ?_
          rintro e we ⟨rfl, fe⟩
          have te := td.below fe
          have hbe := hbd.trans (fe.mono hbd.size)
          have E1 := hid (vals_st te.snd hokd HVB.out HN3.out)
          clear td
          go_wp2_with fail
          refine E1.out.mono ?_
          rintro e wf ⟨Af, cf, rfl, uf, ff⟩
          have tf := te.below ff
          have hbf := hbe.trans (ff.mono hbe.size)
          have E2 := hid (vals_st tf.fst hoka HVA.out HN3.out)
          clear E1 te
          go_wp2_with fail
          refine E2.out.mono ?_
          rintro e wg ⟨Ag, cg, rfl, ug, fg⟩
          have tg := tf.below fg
          have hbg := hbf.trans (fg.mono hbf.size)
          have E3 := hid (same_n (c := cf) (c' := cg) HN3.out (uf.up2 fg) ug (by omega))
          clear E2 tf uf ug
          go_wp2_with fail
          refine E3.out.mono ?_
          rintro e wh ⟨rfl, qh, rfl⟩
          have th := tg.below (bdN wg qh)
          have hbh := hbg.trans ((bdN wg qh).mono hbg.size)
          generalize wg.drewN qh = wh at *
          have E4 := hid (next_st th.fst hoka.bd)
          have E5 := hid (next_st th.snd hokd.bd)
          rw [HGA.out] at E4
          have d3 : (sb.gv + 1 == sb.gv + 1) = true := by simp
          clear E3 tg
          go_wp2_with fail
          refine E4.out.mono ?_
          rintro e wi ⟨rfl, rfl⟩
          go_wp2_with fail
          refine E5.out.mono ?_
          rintro e wj ⟨rfl, rfl⟩
          go_wp2_with fail
          go_ret
          exact ⟨by first | rfl | simp, hbh⟩
        case true =>
          have D1 := hid (tb.op (f := 16) (args := #[.pointer (some ⟨b, 0, none⟩), .int .i64 n]) (P := fun e => e = .returned (.int .i64 0)) (s' := (s1.commit n).2) (fun F h1 _ _ => by have := commit_any h1 HOK2.out.bd n; rw [HQ3.out] at this ⊢; exact this))
          go_wp2_with fail
          refine D1.out.mono ?_
          rintro e wc ⟨rfl, tc, fc⟩
          have hbc := hbb.trans fc
          have D2 := hid (tc.op2 (f := 16) (args := #[.pointer (some ⟨b2, 0, none⟩), .int .i64 n]) (P := fun e => e = .returned (.int .i64 0)) (s' := (s3.commit n).2) (fun F h1 _ _ => by have := commit_any h1 HR2.out.bd n; rw [HC3E.out] at this; exact this))
          clear D1 tb
          go_wp2_with fail
          refine D2.out.mono ?_
          rintro e wd ⟨rfl, td, fd⟩
          have hbd := hbc.trans fd
          clear D2 tc
          have hoka : (s1.commit n).2.Ok := by rw [HQ3.out]; exact HCM3.out
          have hokd := HOKC.out
          have hva : (s1.commit n).2.its.map (·.val) = L2 := by rw [HQ3.out]; exact HL2.out
          have hvb := HR5.out.1
          have hga : (s1.commit n).2.gv = (s3.commit n).2.gv := by rw [HR5.out.2, HQ3.out]
          generalize (s1.commit n).2 = sa at *
          generalize (s3.commit n).2 = sb at *
          obtain ⟨L3, hL3⟩ : ∃ L3, L3 = L2 := ⟨_, rfl⟩
          rw [← hL3] at hva hvb
          obtain ⟨N3, hN3⟩ : ∃ N3, L3.length = N3 := ⟨_, rfl⟩
          have hN30 : N3 ≤ 16 := by have := hoka.sz; rw [← hN3, ← hva, List.length_map]; omega
          have HVA := hid hva
          have HVB := hid hvb
          have HN3 := hid hN3
          have HGA := hid hga
          clear hva hvb hN3 hga hL3
          go_wp2_with fail
          refine (alive_any _).mono ?_
          rintro e we ⟨rfl, fe⟩
          have te := td.below fe
          have hbe := hbd.trans (fe.mono hbd.size)
          have E1 := hid (vals_st te.snd hokd HVB.out HN3.out)
          clear td
          go_wp2_with fail
          refine E1.out.mono ?_
          rintro e wf ⟨Af, cf, rfl, uf, ff⟩
          have tf := te.below ff
          have hbf := hbe.trans (ff.mono hbe.size)
          have E2 := hid (vals_st tf.fst hoka HVA.out HN3.out)
          clear E1 te
          go_wp2_with fail
          refine E2.out.mono ?_
          rintro e wg ⟨Ag, cg, rfl, ug, fg⟩
          have tg := tf.below fg
          have hbg := hbf.trans (fg.mono hbf.size)
          have E3 := hid (same_n (c := cf) (c' := cg) HN3.out (uf.up2 fg) ug (by omega))
          clear E2 tf uf ug
          go_wp2_with fail
          refine E3.out.mono ?_
          rintro e wh ⟨rfl, qh, rfl⟩
          have th := tg.below (bdN wg qh)
          have hbh := hbg.trans ((bdN wg qh).mono hbg.size)
          generalize wg.drewN qh = wh at *
          have E4 := hid (next_st th.fst hoka.bd)
          have E5 := hid (next_st th.snd hokd.bd)
          rw [HGA.out] at E4
          have d3 : (sb.gv + 1 == sb.gv + 1) = true := by simp
          clear E3 tg
          go_wp2_with fail
          refine E4.out.mono ?_
          rintro e wi ⟨rfl, rfl⟩
          go_wp2_with fail
          refine E5.out.mono ?_
          rintro e wj ⟨rfl, rfl⟩
          go_wp2_with fail
          go_ret
          exact ⟨by first | rfl | simp, hbh⟩
    · rw [he] at C4
      go_wp2_with fail
      refine C4.out.mono ?_
      rintro e w6 ⟨A6, c6, rfl, t6, hc6, f6⟩
      go_wp2_with fail
      refine (alive_any _).mono ?_
      rintro e w7 ⟨rfl, f7⟩
      go_wp2_with fail
      go_ret
      exact ⟨by first | rfl | simp, (hb5.trans f6).trans (f7.mono (hb5.trans f6).size)⟩
end Go.Proofs.Ytmckdoiepmkbbaa
