/- Walks of the resources' small calls: New, fit, Busy, Get, Put, Del, Push, Pop. Conditions: the resources read as RAt says. -/
import Derived.Test.YtdejbinmnoabeaaRzM
namespace Go.Proofs.Ytdejbinmnoabeaa
open Go.RowKit Go.Mine Go.Proofs.YtdejbinmnoabeaaW.PrintWords
set_option linter.unusedVariables false
set_option linter.unusedSimpArgs false
theorem zero4 (w : World) : (zeroValue 4).run Try.prog w = .ok (.bool false) w := by kernel_rfl
theorem results_tmp3 {fn : Func} {t u v : Tmp} (h : fn.results = #[.tmp t, .tmp u, .tmp v]) (tmps : Array Value) (P : Program) (w : World) :
    (results fn tmps).run P w = .ok (.tuple #[tmps.getD t undef, tmps.getD u undef, tmps.getD v undef]) w := by
  simp [results, h]
def nilRes : Array Value := K.storeCells (pz (.slice none 0 0) (.slice none 0 0) 0 none none) (List.replicate 16 0) (List.replicate 16 false) none none
theorem new_any (w : World) : Calls Try.prog 28 #[] w fun e w' => e = .returned (.pointer (some ⟨w.heap.size, 0, none⟩)) ∧ w' = w.alloc (.cells nilRes 91) := by
  go_enter Try.func28, Try.ntmps28
  go_wp2
  go_ret
  exact ⟨rfl, rfl⟩
theorem new_rat (w : World) : RAt (fun i => i = w.heap.size) (w.alloc (.cells nilRes 91)) w.heap.size RM.new := by
  have hb := (MapKept.heap_alloc w (.cells nilRes 91)).1
  have h1 : (List.replicate 16 (0 : Int)).length = 16 := rfl
  have h2 : (List.replicate 16 false).length = 16 := rfl
  have hkr : K.KvR (pz (.slice none 0 0) (.slice none 0 0) 0 none none) (fun i => i = w.heap.size) (w.alloc (.cells nilRes 91)) w.heap.size (List.replicate 16 0) (List.replicate 16 false) [] [] [] none none :=
    ⟨fun i hi => by subst hi; simp, rfl, h1, h2, hb, rfl, rfl, fun c hc => (by cases hc), fun x hx => absurd hx List.not_mem_nil, List.Pairwise.nil, ⟨[], rfl, ⟨none, hb, K.sc33 h1 h2 _ _, rfl, fun c hc => (by cases hc)⟩⟩, fun c hc => (by cases hc), fun c hc => (by cases hc)⟩
  refine ⟨_, _, [], [], none, none, [], .slice none 0 0, .slice none 0 0, none, none, [], [], ⟨KS.Ok.new, QS.Ok.new, hkr, rfl, ?_, rfl, rfl, rfl, fun i hi _ => hi, fun c hc => (by cases hc), fun c hc => (by cases hc), fun c hc => (by cases hc), fun i hi => hi, fun i hi => hi, fun i hi => by subst hi; simp⟩, fun n => rfl, fun n => rfl⟩
  exact
    { fb := fun i hi => by subst hi; simp
      bF := rfl
      blk := hb.trans (congrArg (fun c => some (Obj.cells c 91 (0, 0))) (cells_eq h1 h2))
      it := Q.FR.nil _ _ _
      wp := Q.FR.nil _ _ _
      iF := fun k hk => by simp [Value.ownBlock] at hk
      qF := fun k hk => by simp [Value.ownBlock] at hk
      wk := fun x hx => absurd hx List.not_mem_nil
      apart := List.Pairwise.nil }
section
variable {F : Nat → Prop} {w : World} {b : Nat} {k : KS} {q : QS} {f0 f1 : Int → Bool} {s : RM}
theorem getD_bool {o : Option Bool} : (o.map Value.bool).getD (.bool false) = .bool (o.getD false) := by cases o <;> rfl
set_option maxRecDepth 100000 in
set_option maxHeartbeats 2000000 in
theorem fit_rx (h : RX F w b k q f0 f1) (n : Int) :
    Calls Try.prog 42 #[.pointer (some ⟨b, 0, none⟩), .int .i64 n] w fun e w' => e = .returned (.int .i64 (if n < 1 then 1 else if (f0 n || f1 n) = true then 7 else 0)) ∧ w = w' := by
  obtain ⟨FK, FQ, I, L, mo, lo, J, iv, qv, m0, m1, L0, L1, h, h0, h1⟩ := h
  have c0 : w.cell? ⟨b, 37, none⟩ = some (.map m0) := by rw [cell_of_row w b 37 _ _ _ h.kr.blk]; exact sc37 h.kr.lv h.kr.lth
  have c1 : w.cell? ⟨b, 38, none⟩ = some (.map m1) := by rw [cell_of_row w b 38 _ _ _ h.kr.blk]; exact sc38 h.kr.lv h.kr.lth
  have l0 := run_lookupO Try.underlying88 K.key3 h.a0 (zero4 w) n false
  have l1 := run_lookupO Try.underlying88 K.key3 h.a1 (zero4 w) n false
  simp only [Bool.false_eq_true, if_false, getD_bool, h0, h1] at l0 l1
  clear h h0 h1
  by_cases hn : n < 1
  · rw [if_pos hn]
    go_enter Try.func42, Try.ntmps42
    go_wp2_with fail
    go_ret
    exact ⟨rfl, rfl⟩
  · rw [if_neg hn]
    cases q0 : f0 n
    · cases q1 : f1 n
      all_goals
        rw [q0] at l0
        rw [q1] at l1
        simp only [Bool.or_self, Bool.false_or, Bool.false_eq_true, if_false, if_true]
        go_enter Try.func42, Try.ntmps42
        go_wp2_with fail
        go_ret
        exact ⟨rfl, rfl⟩
    · rw [q0] at l0
      generalize f1 n = z at *
      simp only [Bool.true_or, if_true]
      go_enter Try.func42, Try.ntmps42
      go_wp2_with fail
      go_ret
      exact ⟨rfl, rfl⟩
theorem fit_any (h : RAt F w b s) (n : Int) :
    Calls Try.prog 42 #[.pointer (some ⟨b, 0, none⟩), .int .i64 n] w fun e w' => e = .returned (.int .i64 (s.fit n)) ∧ w = w' := fit_rx h n
theorem fit_nil (n : Int) (w : World) : Calls Try.prog 42 #[.pointer none, .int .i64 n] w fun e w' => e = .returned (.int .i64 6) ∧ w = w' := by
  go_enter Try.func42, Try.ntmps42
  go_wp2_with fail
  go_ret
  exact ⟨rfl, rfl⟩
theorem busy_any (h : RX F w b k q f0 f1) (n : Int) :
    Calls Try.prog 16 #[.pointer (some ⟨b, 0, none⟩), .int .i64 n] w fun e w' => e = .returned (.bool (k.busy n || q.busy n)) ∧ w = w' := by
  obtain ⟨FK, Pz, _, hk, _⟩ := h.kv
  obtain ⟨FQ, Z, _, hq, _⟩ := h.qu
  have HK := hid (K.busy_any hk n)
  have HQ := hid (Q.busy_any hq (by have := h.qok.ws_le; omega) n)
  clear hk hq h
  go_enter Try.func16, Try.ntmps16
  cases q0 : k.busy n
  · rw [q0] at HK
    go_wp2_with fail
    refine HK.out.mono ?_
    rintro e w1 ⟨rfl, rfl⟩
    go_wp2_with fail
    refine HQ.out.mono ?_
    rintro e w1 ⟨rfl, rfl⟩
    go_wp2_with fail
    go_ret
    exact ⟨rfl, rfl⟩
  · rw [q0] at HK
    go_wp2_with fail
    refine HK.out.mono ?_
    rintro e w1 ⟨rfl, rfl⟩
    go_wp2_with fail
    go_ret
    exact ⟨rfl, rfl⟩
theorem busy_nil (n : Int) (w : World) : Calls Try.prog 16 #[.pointer none, .int .i64 n] w fun e w' => e = .returned (.bool false) ∧ w = w' := by
  go_enter Try.func16, Try.ntmps16
  go_wp2_with fail
  go_ret
  exact ⟨rfl, rfl⟩
def RPost (F : Nat → Prop) (w : World) (b : Nat) (r : Value) (s' : RM) (e : Ending) (w' : World) : Prop :=
  e = .returned r ∧ (∃ F', RAt F' w' b s' ∧ K.Grew F F' w) ∧ Fr F w w'
theorem RPost.same (h : RAt F w b s) (r : Value) : RPost F w b r s (.returned r) w := ⟨rfl, ⟨F, h, K.Grew.refl _ _⟩, Fr.refl _ _⟩
theorem grew_or {F G G' : Nat → Prop} {w : World} (h : ∀ i, G i → F i) (hg : ∀ i, G' i → G i ∨ w.heap.size ≤ i) : K.Grew F (fun i => F i ∨ G' i) w := fun i hi => hi.elim .inl (fun q => (hg i q).imp (h i) id)
set_option maxRecDepth 100000 in
set_option maxHeartbeats 2000000 in
theorem get_any (h : RAt F w b s) (n : Int) (key : Int) :
    Calls Try.prog 33 #[.pointer (some ⟨b, 0, none⟩), .int .i64 n, .int .i64 key] w (RPost F w b (.tuple #[.int .u64 (s.get n key).1.1, .bool (s.get n key).1.2.1, .int .i64 (s.get n key).1.2.2]) (s.get n key).2) := by
  have HF := hid (fit_any h n)
  have H := hid h
  clear h
  rcases s.fit_cases n with ⟨hn, he⟩ | ⟨hn, he, hp⟩ | ⟨hn, he, hp0, hp1⟩
  · have HM := hid (show (s.get n key) = ((0, false, 1), s) from by unfold RM.get; rw [if_pos (by rw [he]; decide), he])
    rw [he] at HF
    go_enter Try.func33, Try.ntmps33
    go_wp2_with fail
    refine HF.out.mono ?_
    rintro e w1 ⟨rfl, rfl⟩
    go_wp2_with fail
    (try simp only [Exit.inBlock, Exit.then]); refine bodyPost_ret (results_tmp3 rfl _ _ _) rfl ?_
    rw [HM.out]
    exact RPost.same H.out _
  · have HM := hid (show (s.get n key) = ((0, false, 7), s) from by unfold RM.get; rw [if_pos (by rw [he]; decide), he])
    rw [he] at HF
    go_enter Try.func33, Try.ntmps33
    go_wp2_with fail
    refine HF.out.mono ?_
    rintro e w1 ⟨rfl, rfl⟩
    go_wp2_with fail
    (try simp only [Exit.inBlock, Exit.then]); refine bodyPost_ret (results_tmp3 rfl _ _ _) rfl ?_
    rw [HM.out]
    exact RPost.same H.out _
  · have HM := hid (show (s.get n key) = _ from by unfold RM.get; rw [if_neg (by rw [he]; simp)])
    rw [he] at HF
    obtain ⟨FK, Pz, hsub, hk, hst⟩ := H.out.kv
    have HC := hid ((K.get_any hk n key).mono (R' := fun e w' => e = .returned (.tuple #[.int .u64 (s.k.get n key).1.1, .bool (s.k.get n key).1.2.1, .int .i64 (s.k.get n key).1.2.2]) ∧ (∃ F', RAt F' w' b ⟨(s.k.get n key).2, s.q⟩ ∧ K.Grew F F' w) ∧ Fr F w w') (by
      rintro e w' ⟨FK', rfl, hk', hg, hf⟩
      exact ⟨rfl, ⟨_, (hst w' FK' _ hk' hg hf).marks (fun m => (prepd_get).symm) (fun _ => rfl), grew_or hsub hg⟩, hf.mono hsub⟩))
    clear hk hst
    clear he hp0 hp1
    go_enter Try.func33, Try.ntmps33
    go_wp2_with fail
    refine HF.out.mono ?_
    rintro e w1 ⟨rfl, rfl⟩
    go_wp2_with fail
    refine HC.out.mono ?_
    rintro e w1 ⟨rfl, hfin⟩
    go_wp2_with fail
    (try simp only [Exit.inBlock, Exit.then]); refine bodyPost_ret (results_tmp3 rfl _ _ _) rfl ?_
    rw [HM.out]
    exact ⟨rfl, hfin⟩
set_option maxRecDepth 100000 in
set_option maxHeartbeats 2000000 in
theorem put_any (h : RAt F w b s) (n : Int) (key v : Int) :
    Calls Try.prog 21 #[.pointer (some ⟨b, 0, none⟩), .int .i64 n, .int .i64 key, .int .u64 v] w (RPost F w b (.int .i64 (s.change n ⟨1, key, v⟩).1) (s.change n ⟨1, key, v⟩).2) := by
  have HF := hid (fit_any h n)
  have H := hid h
  clear h
  rcases s.fit_cases n with ⟨hn, he⟩ | ⟨hn, he, hp⟩ | ⟨hn, he, hp0, hp1⟩
  · have HM := hid (show (s.change n ⟨1, key, v⟩) = (1, s) from by unfold RM.change; rw [if_pos (by rw [he]; decide), he])
    rw [he] at HF
    go_enter Try.func21, Try.ntmps21
    go_wp2_with fail
    refine HF.out.mono ?_
    rintro e w1 ⟨rfl, rfl⟩
    go_wp2_with fail
    go_ret
    rw [HM.out]
    exact RPost.same H.out _
  · have HM := hid (show (s.change n ⟨1, key, v⟩) = (7, s) from by unfold RM.change; rw [if_pos (by rw [he]; decide), he])
    rw [he] at HF
    go_enter Try.func21, Try.ntmps21
    go_wp2_with fail
    refine HF.out.mono ?_
    rintro e w1 ⟨rfl, rfl⟩
    go_wp2_with fail
    go_ret
    rw [HM.out]
    exact RPost.same H.out _
  · have HM := hid (show (s.change n ⟨1, key, v⟩) = _ from by unfold RM.change; rw [if_neg (by rw [he]; simp)])
    rw [he] at HF
    obtain ⟨FK, Pz, hsub, hk, hst⟩ := H.out.kv
    have HC := hid ((K.put_any hk n key v).mono (R' := fun e w' => e = .returned (.int .i64 (s.k.change n ⟨1, key, v⟩).1) ∧ (∃ F', RAt F' w' b ⟨(s.k.change n ⟨1, key, v⟩).2, s.q⟩ ∧ K.Grew F F' w) ∧ Fr F w w') (by
      rintro e w' ⟨FK', rfl, hk', hg, hf⟩
      exact ⟨rfl, ⟨_, (hst w' FK' _ hk' hg hf).marks (fun m => (prepd_change H.out.kok).symm) (fun _ => rfl), grew_or hsub hg⟩, hf.mono hsub⟩))
    clear hk hst
    clear he hp0 hp1
    go_enter Try.func21, Try.ntmps21
    go_wp2_with fail
    refine HF.out.mono ?_
    rintro e w1 ⟨rfl, rfl⟩
    go_wp2_with fail
    refine HC.out.mono ?_
    rintro e w1 ⟨rfl, hfin⟩
    go_wp2_with fail
    go_ret
    rw [HM.out]
    exact ⟨rfl, hfin⟩
set_option maxRecDepth 100000 in
set_option maxHeartbeats 2000000 in
theorem del_any (h : RAt F w b s) (n : Int) (key : Int) :
    Calls Try.prog 34 #[.pointer (some ⟨b, 0, none⟩), .int .i64 n, .int .i64 key] w (RPost F w b (.int .i64 (s.change n ⟨2, key, 0⟩).1) (s.change n ⟨2, key, 0⟩).2) := by
  have HF := hid (fit_any h n)
  have H := hid h
  clear h
  rcases s.fit_cases n with ⟨hn, he⟩ | ⟨hn, he, hp⟩ | ⟨hn, he, hp0, hp1⟩
  · have HM := hid (show (s.change n ⟨2, key, 0⟩) = (1, s) from by unfold RM.change; rw [if_pos (by rw [he]; decide), he])
    rw [he] at HF
    go_enter Try.func34, Try.ntmps34
    go_wp2_with fail
    refine HF.out.mono ?_
    rintro e w1 ⟨rfl, rfl⟩
    go_wp2_with fail
    go_ret
    rw [HM.out]
    exact RPost.same H.out _
  · have HM := hid (show (s.change n ⟨2, key, 0⟩) = (7, s) from by unfold RM.change; rw [if_pos (by rw [he]; decide), he])
    rw [he] at HF
    go_enter Try.func34, Try.ntmps34
    go_wp2_with fail
    refine HF.out.mono ?_
    rintro e w1 ⟨rfl, rfl⟩
    go_wp2_with fail
    go_ret
    rw [HM.out]
    exact RPost.same H.out _
  · have HM := hid (show (s.change n ⟨2, key, 0⟩) = _ from by unfold RM.change; rw [if_neg (by rw [he]; simp)])
    rw [he] at HF
    obtain ⟨FK, Pz, hsub, hk, hst⟩ := H.out.kv
    have HC := hid ((K.del_any hk n key).mono (R' := fun e w' => e = .returned (.int .i64 (s.k.change n ⟨2, key, 0⟩).1) ∧ (∃ F', RAt F' w' b ⟨(s.k.change n ⟨2, key, 0⟩).2, s.q⟩ ∧ K.Grew F F' w) ∧ Fr F w w') (by
      rintro e w' ⟨FK', rfl, hk', hg, hf⟩
      exact ⟨rfl, ⟨_, (hst w' FK' _ hk' hg hf).marks (fun m => (prepd_change H.out.kok).symm) (fun _ => rfl), grew_or hsub hg⟩, hf.mono hsub⟩))
    clear hk hst
    clear he hp0 hp1
    go_enter Try.func34, Try.ntmps34
    go_wp2_with fail
    refine HF.out.mono ?_
    rintro e w1 ⟨rfl, rfl⟩
    go_wp2_with fail
    refine HC.out.mono ?_
    rintro e w1 ⟨rfl, hfin⟩
    go_wp2_with fail
    go_ret
    rw [HM.out]
    exact ⟨rfl, hfin⟩
set_option maxRecDepth 100000 in
set_option maxHeartbeats 2000000 in
theorem push_any (h : RAt F w b s) (n : Int) (v : Int) :
    Calls Try.prog 22 #[.pointer (some ⟨b, 0, none⟩), .int .i64 n, .int .u64 v] w (RPost F w b (.int .i64 (s.push n v).1) (s.push n v).2) := by
  have HF := hid (fit_any h n)
  have H := hid h
  clear h
  rcases s.fit_cases n with ⟨hn, he⟩ | ⟨hn, he, hp⟩ | ⟨hn, he, hp0, hp1⟩
  · have HM := hid (show (s.push n v) = (1, s) from by unfold RM.push; rw [if_pos (by rw [he]; decide), he])
    rw [he] at HF
    go_enter Try.func22, Try.ntmps22
    go_wp2_with fail
    refine HF.out.mono ?_
    rintro e w1 ⟨rfl, rfl⟩
    go_wp2_with fail
    go_ret
    rw [HM.out]
    exact RPost.same H.out _
  · have HM := hid (show (s.push n v) = (7, s) from by unfold RM.push; rw [if_pos (by rw [he]; decide), he])
    rw [he] at HF
    go_enter Try.func22, Try.ntmps22
    go_wp2_with fail
    refine HF.out.mono ?_
    rintro e w1 ⟨rfl, rfl⟩
    go_wp2_with fail
    go_ret
    rw [HM.out]
    exact RPost.same H.out _
  · have HM := hid (show (s.push n v) = _ from by unfold RM.push; rw [if_neg (by rw [he]; simp)])
    rw [he] at HF
    obtain ⟨FQ, Z, hsub, hk, hst⟩ := H.out.qu
    have HC := hid ((Q.put_any hk H.out.qok.bd n v).mono (R' := fun e w' => e = .returned (.int .i64 (s.q.put n v).1) ∧ (∃ F', RAt F' w' b ⟨s.k, (s.q.put n v).2⟩ ∧ K.Grew F F' w) ∧ Fr F w w') (by
      rintro e w' ⟨rfl, ⟨FQ', hk', hg⟩, hf⟩
      exact ⟨rfl, ⟨_, (hst w' FQ' _ hk' (H.out.qok.put n v) hg hf).marks (fun _ => rfl) (fun m => (prepd_put H.out.qok).symm), grew_or hsub hg⟩, hf.mono hsub⟩))
    clear hk hst
    clear he hp0 hp1
    go_enter Try.func22, Try.ntmps22
    go_wp2_with fail
    refine HF.out.mono ?_
    rintro e w1 ⟨rfl, rfl⟩
    go_wp2_with fail
    refine HC.out.mono ?_
    rintro e w1 ⟨rfl, hfin⟩
    go_wp2_with fail
    go_ret
    rw [HM.out]
    exact ⟨rfl, hfin⟩
set_option maxRecDepth 100000 in
set_option maxHeartbeats 2000000 in
theorem pop_any (h : RAt F w b s) (n : Int)  :
    Calls Try.prog 35 #[.pointer (some ⟨b, 0, none⟩), .int .i64 n] w (RPost F w b (.tuple #[.int .u64 (s.pop n).1.1, .int .i64 (s.pop n).1.2]) (s.pop n).2) := by
  have HF := hid (fit_any h n)
  have H := hid h
  clear h
  rcases s.fit_cases n with ⟨hn, he⟩ | ⟨hn, he, hp⟩ | ⟨hn, he, hp0, hp1⟩
  · have HM := hid (show (s.pop n) = ((0, 1), s) from by unfold RM.pop; rw [if_pos (by rw [he]; decide), he])
    rw [he] at HF
    go_enter Try.func35, Try.ntmps35
    go_wp2_with fail
    refine HF.out.mono ?_
    rintro e w1 ⟨rfl, rfl⟩
    go_wp2_with fail
    go_ret2
    rw [HM.out]
    exact RPost.same H.out _
  · have HM := hid (show (s.pop n) = ((0, 7), s) from by unfold RM.pop; rw [if_pos (by rw [he]; decide), he])
    rw [he] at HF
    go_enter Try.func35, Try.ntmps35
    go_wp2_with fail
    refine HF.out.mono ?_
    rintro e w1 ⟨rfl, rfl⟩
    go_wp2_with fail
    go_ret2
    rw [HM.out]
    exact RPost.same H.out _
  · have HM := hid (show (s.pop n) = _ from by unfold RM.pop; rw [if_neg (by rw [he]; simp)])
    rw [he] at HF
    obtain ⟨FQ, Z, hsub, hk, hst⟩ := H.out.qu
    have HC := hid ((Q.take_any hk H.out.qok.bd n).mono (R' := fun e w' => e = .returned (.tuple #[.int .u64 (s.q.take n).1.1, .int .i64 (s.q.take n).1.2]) ∧ (∃ F', RAt F' w' b ⟨s.k, (s.q.take n).2⟩ ∧ K.Grew F F' w) ∧ Fr F w w') (by
      rintro e w' ⟨rfl, ⟨FQ', hk', hg⟩, hf⟩
      exact ⟨rfl, ⟨_, (hst w' FQ' _ hk' (H.out.qok.take n) hg hf).marks (fun _ => rfl) (fun m => (prepd_take H.out.qok).symm), grew_or hsub hg⟩, hf.mono hsub⟩))
    clear hk hst
    clear he hp0 hp1
    go_enter Try.func35, Try.ntmps35
    go_wp2_with fail
    refine HF.out.mono ?_
    rintro e w1 ⟨rfl, rfl⟩
    go_wp2_with fail
    refine HC.out.mono ?_
    rintro e w1 ⟨rfl, hfin⟩
    go_wp2_with fail
    go_ret2
    rw [HM.out]
    exact ⟨rfl, hfin⟩
end
end Go.Proofs.Ytdejbinmnoabeaa
