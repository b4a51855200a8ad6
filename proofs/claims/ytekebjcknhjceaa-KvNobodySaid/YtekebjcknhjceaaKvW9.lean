/- Walk of trothlaw13.call: a call does to the store what the plain store does. Conditions: the store reads as KvAt says; the list reads. -/
import Derived.Test.YtekebjcknhjceaaKvL0
namespace Go.Mine
set_option linter.unusedVariables false
structure KOp where
  kind : Int
  work : Int
  key : Int
  val : Int
  la : Option Addr
  l : List Ch
  lc : Nat
/-- What a call tells, and leaves. -/
def callK (s : KS) (o : KOp) : (Int × Bool × List Ch × Int) × KS :=
  if o.kind = 0 then (((s.get o.work o.key).1.1, (s.get o.work o.key).1.2.1, [], (s.get o.work o.key).1.2.2), (s.get o.work o.key).2)
  else if o.kind = 1 then ((0, false, [], (s.change o.work ⟨1, o.key, o.val⟩).1), (s.change o.work ⟨1, o.key, o.val⟩).2)
  else if o.kind = 2 then ((0, false, [], (s.change o.work ⟨2, o.key, 0⟩).1), (s.change o.work ⟨2, o.key, 0⟩).2)
  else if o.kind = 3 then ((0, false, (s.prepare o.work).1.1, (s.prepare o.work).1.2), (s.prepare o.work).2)
  else if o.kind = 4 then ((0, false, [], (s.commit o.work).1), (s.commit o.work).2)
  else if o.kind = 5 then ((0, false, [], (s.backout o.work).1), (s.backout o.work).2)
  else if o.kind = 6 then ((0, false, [], (s.restore o.work o.l).1), (s.restore o.work o.l).2)
  else ((0, false, [], 0), s)
end Go.Mine
namespace Go.Proofs.Ytekebjcknhjceaa
open Go.RowKit Go.Mine Go.Proofs.YtekebjcknhjceaaW.PrintWords
open Go.ChangeMaps (setBlock)
set_option linter.unusedVariables false
set_option linter.unusedSimpArgs false

theorem results_tmp4 {fn : Func} {t u v x : Tmp} (h : fn.results = #[.tmp t, .tmp u, .tmp v, .tmp x]) (tmps : Array Value) (P : Program) (w : World) :
    (results fn tmps).run P w = .ok (.tuple #[tmps.getD t undef, tmps.getD u undef, tmps.getD v undef, tmps.getD x undef]) w := by
  simp [results, h]
def CallPost (F : Nat → Prop) (w : World) (b0 : Nat) (s : KS) (o : KOp) (e : Ending) (w' : World) : Prop :=
  ∃ v F', e = .returned (.tuple #[.int .u64 (callK s o).1.1, .bool (callK s o).1.2.1, v, .int .i64 (callK s o).1.2.2.2]) ∧ KvAt F' w' b0 (callK s o).2 ∧ Grew F F' w ∧ Fr F w w' ∧ ChRow w' v (callK s o).1.2.2.1 ∧ ∀ k, v.ownBlock = some k → w.heap.size ≤ k ∧ ¬ F' k
def opArg (o : KOp) : Value := .agg #[.int .i64 o.kind, .int .i64 o.work, .int .i64 o.key, .int .u64 o.val, .slice o.la o.l.length o.lc]
/-- A call whose list is nil. -/
theorem CallPost.plain {F F' : Nat → Prop} {w w1 w' : World} {b0 : Nat} {s : KS} {o : KOp} {a : Int} {b : Bool} {e : Int} {s' : KS} (hc : callK s o = ((a, b, [], e), s')) (hk : KvAt F' w' b0 s') (hg : Grew F F' w1) (hf : Fr F w1 w') (hw : Fr (fun _ => False) w w1) :
    CallPost F w b0 s o (.returned (.tuple #[.int .u64 a, .bool b, .slice none 0 0, .int .i64 e])) w' := by
  unfold CallPost
  rw [hc]
  exact ⟨_, F', rfl, hk, fun i hi => (hg i hi).imp id (fun q => Nat.le_trans hw.size q), (hw.mono (fun _ q => q.elim)).trans hf (fun i q => .inl q), ChRow.none_ _, fun k hk => by simp [Value.ownBlock] at hk⟩

set_option maxRecDepth 100000 in
set_option maxHeartbeats 4000000 in
theorem call_any {F : Nat → Prop} {w : World} {b0 : Nat} {s : KS} (h : KvAt F w b0 s) (o : KOp) (hl : ChAt w w.heap.size o.la o.l) (hn6 : o.kind = 6 → o.l.length ≤ 100000) (hc : o.l.length ≤ o.lc) :
    Calls Try.prog 19 #[.pointer (some ⟨b0, 0, none⟩), .agg #[.int .i64 o.kind, .int .i64 o.work, .int .i64 o.key, .int .u64 o.val, .slice o.la o.l.length o.lc]] w (CallPost F w b0 s o) := by
  have fa : Fr (fun _ => False) w (w.alloc (.cells #[.int .i64 o.kind, .int .i64 o.work, .int .i64 o.key, .int .u64 o.val, .slice o.la o.l.length o.lc] 51)) := (Fr.refl _ w).alloc _
  have ba : Below w.heap.size w (w.alloc (.cells #[.int .i64 o.kind, .int .i64 o.work, .int .i64 o.key, .int .u64 o.val, .slice o.la o.l.length o.lc] 51)) := (Below.refl _ _).alloc (Nat.le_refl _) _
  have hbx : (w.alloc (.cells #[.int .i64 o.kind, .int .i64 o.work, .int .i64 o.key, .int .u64 o.val, .slice o.la o.l.length o.lc] 51)).heap[w.heap.size]? = some (.cells #[.int .i64 o.kind, .int .i64 o.work, .int .i64 o.key, .int .u64 o.val, .slice o.la o.l.length o.lc] 51 (0, 0)) := (MapKept.heap_alloc w _).1
  have ha := h.fr fa (fun _ _ => id)
  have hla := (hl.below ba).up ba.size
  have hFb : ¬ F w.heap.size := fun q => by have := h.fb _ q; omega
  have k0 : (w.alloc (.cells #[.int .i64 o.kind, .int .i64 o.work, .int .i64 o.key, .int .u64 o.val, .slice o.la o.l.length o.lc] 51)).cell? ⟨w.heap.size, 0, none⟩ = some (.int .i64 o.kind) := by rw [cell_of_row (w.alloc (.cells #[.int .i64 o.kind, .int .i64 o.work, .int .i64 o.key, .int .u64 o.val, .slice o.la o.l.length o.lc] 51)) _ 0 _ _ _ hbx]; rfl
  have k1 : (w.alloc (.cells #[.int .i64 o.kind, .int .i64 o.work, .int .i64 o.key, .int .u64 o.val, .slice o.la o.l.length o.lc] 51)).cell? ⟨w.heap.size, 1, none⟩ = some (.int .i64 o.work) := by rw [cell_of_row (w.alloc (.cells #[.int .i64 o.kind, .int .i64 o.work, .int .i64 o.key, .int .u64 o.val, .slice o.la o.l.length o.lc] 51)) _ 1 _ _ _ hbx]; rfl
  have k2 : (w.alloc (.cells #[.int .i64 o.kind, .int .i64 o.work, .int .i64 o.key, .int .u64 o.val, .slice o.la o.l.length o.lc] 51)).cell? ⟨w.heap.size, 2, none⟩ = some (.int .i64 o.key) := by rw [cell_of_row (w.alloc (.cells #[.int .i64 o.kind, .int .i64 o.work, .int .i64 o.key, .int .u64 o.val, .slice o.la o.l.length o.lc] 51)) _ 2 _ _ _ hbx]; rfl
  have k3 : (w.alloc (.cells #[.int .i64 o.kind, .int .i64 o.work, .int .i64 o.key, .int .u64 o.val, .slice o.la o.l.length o.lc] 51)).cell? ⟨w.heap.size, 3, none⟩ = some (.int .u64 o.val) := by rw [cell_of_row (w.alloc (.cells #[.int .i64 o.kind, .int .i64 o.work, .int .i64 o.key, .int .u64 o.val, .slice o.la o.l.length o.lc] 51)) _ 3 _ _ _ hbx]; rfl
  have k4 : (w.alloc (.cells #[.int .i64 o.kind, .int .i64 o.work, .int .i64 o.key, .int .u64 o.val, .slice o.la o.l.length o.lc] 51)).cell? ⟨w.heap.size, 4, none⟩ = some (.slice o.la o.l.length o.lc) := by rw [cell_of_row (w.alloc (.cells #[.int .i64 o.kind, .int .i64 o.work, .int .i64 o.key, .int .u64 o.val, .slice o.la o.l.length o.lc] 51)) _ 4 _ _ _ hbx]; rfl
  have HBX := hid hbx
  have HLA := hid hla
  have HH := hid h
  clear hl hla ba h
  go_enter Try.func19, Try.ntmps19
  cases q0 : (o.kind == 0)
  · cases q1 : (o.kind == 1)
    · cases q2 : (o.kind == 2)
      · cases q3 : (o.kind == 3)
        · cases q4 : (o.kind == 4)
          · cases q5 : (o.kind == 5)
            · cases q6 : (o.kind == 6)
              · have n0 : ¬ o.kind = 0 := by simpa using q0
                have n1 : ¬ o.kind = 1 := by simpa using q1
                have n2 : ¬ o.kind = 2 := by simpa using q2
                have n3 : ¬ o.kind = 3 := by simpa using q3
                have n4 : ¬ o.kind = 4 := by simpa using q4
                have n5 : ¬ o.kind = 5 := by simpa using q5
                have n6 : ¬ o.kind = 6 := by simpa using q6
                have HC := hid (show callK s o = _ from by unfold callK; rw [if_neg n0, if_neg n1, if_neg n2, if_neg n3, if_neg n4, if_neg n5, if_neg n6])
                clear n0 n1 n2 n3 n4 n5 n6
                go_wp2_with fail
                (try simp only [Exit.inBlock, Exit.then]); refine bodyPost_ret (results_tmp4 rfl _ _ _) rfl ?_
                exact CallPost.plain HC.out ha (Grew.refl _ _) (Fr.refl _ _) fa
              · have n0 : ¬ o.kind = 0 := by simpa using q0
                have n1 : ¬ o.kind = 1 := by simpa using q1
                have n2 : ¬ o.kind = 2 := by simpa using q2
                have n3 : ¬ o.kind = 3 := by simpa using q3
                have n4 : ¬ o.kind = 4 := by simpa using q4
                have n5 : ¬ o.kind = 5 := by simpa using q5
                have p6 : o.kind = 6 := by simpa using q6
                have HC := hid (show callK s o = _ from by unfold callK; rw [if_neg n0, if_neg n1, if_neg n2, if_neg n3, if_neg n4, if_neg n5, if_pos p6])
                have hn := hn6 p6
                clear n0 n1 n2 n3 n4 n5 p6
                have hrow := HLA.out.row (by omega)
                have HROW := hid hrow
                clear hrow
                go_wp2_with (at_builtin; refine Kd.R_append_rows kch (Rr := fun x cs => cs = encCh x) (w0 := (w.alloc (.cells #[.int .i64 o.kind, .int .i64 o.work, .int .i64 o.key, .int .u64 o.val, .slice o.la o.l.length o.lc] 51))) (w.alloc (.cells #[.int .i64 o.kind, .int .i64 o.work, .int .i64 o.key, .int .u64 o.val, .slice o.la o.l.length o.lc] 51)).heap.size rfl (.tmp 76) (.tmp 78) 32 60 _ 24 rfl Try.underlying32 info60 (by rfl) (by decide) (by decide) (.slice none 0 0) [] o.l _ _ _ (fun _ => True) (fun _ => False) rfl rfl (Kd.R_nil _ _ _ _ _) HROW.out (fun _ _ h => h) (fun _ h => h.elim) (fun _ _ => trivial) (Below.refl _ _) (Nat.le_refl _) (by simp; omega) ?_; intro v5 w5 ho5 hb5 hg5 hat5; have HO5 := hid ho5; clear ho5 hg5 hat5; obtain ⟨A5, c5, hv5⟩ := Kd.R_slice HO5.out; rw [List.nil_append] at hv5; subst hv5; have k1' := (hb5.cell (World.block_lt_of_cell? _ _ k1)).trans k1)
                have hr5 : ChRow w5 (.slice A5 o.l.length c5) o.l := by
                  have := Kd.R_lower HO5.out (Nat.zero_le _)
                  simpa using this
                have hown : ∀ k, (Value.slice A5 o.l.length c5).ownBlock = some k → (w.alloc (.cells #[.int .i64 o.kind, .int .i64 o.work, .int .i64 o.key, .int .u64 o.val, .slice o.la o.l.length o.lc] 51)).heap.size ≤ k := fun k hk => Kd.R_base HO5.out k hk
                have ha5 := ha.below hb5
                have hFo : ∀ k, (Value.slice A5 o.l.length c5).ownBlock = some k → ¬ F k := fun k hk q => by have := ha.fb k q; have := hown k hk; omega
                obtain ⟨A5', c5', hv5', hc5, hat5⟩ := hr5.at_
                have hAc : A5' = A5 ∧ c5' = c5 := by injection hv5' with a b c; exact ⟨a.symm, c.symm⟩
                rw [hAc.1] at hat5
                rw [hAc.2] at hc5
                have hbe : Beside F w5 A5 := fun b off e => ⟨hFo b (by rw [e]; rfl), hr5.lt b (by rw [e]; rfl)⟩
                have HT := hid (restore_any ha5 o.work A5 o.l c5 hat5 hbe (by omega) hc5)
                have HR5 := hid hr5
                have HA5 := hid ha5
                clear hr5 hat5 hv5' hAc hbe ha5 hc5
                refine HT.out.mono ?_
                rintro e w6 ⟨rfl, ⟨F6, h6, g6⟩, f6⟩
                have hr6 : ChRow w6 (.slice A5 o.l.length c5) o.l := HR5.out.move (fun k hk => f6.block k (HR5.out.lt k hk) (hFo k hk))
                have hF6 : ∀ k, (Value.slice A5 o.l.length c5).ownBlock = some k → ¬ F6 k := fun k hk q => by
                  rcases g6 k q with r | r
                  · exact hFo k hk r
                  · have := HR5.out.lt k hk; omega
                have fall : Fr F w w6 := ((fa.mono (fun _ q => q.elim)).trans (Fr.of_below hb5 (Nat.le_refl _)) (fun _ q => q.elim)).trans f6 (fun i q => .inl q)
                have gall : Grew F F6 w := fun i hi => (g6 i hi).imp id (fun q => Nat.le_trans (Nat.le_trans fa.size hb5.size) q)
                have HF6 := hid hF6
                have HOW := hid hown
                clear HT HR5 HA5 hFo HO5 hF6 hown HLA hbx HBX f6 g6 k1' k0 k1 k2 k3 k4 ha HROW
                go_wp2_with fail
                go_loopg [15] (o.l.length + 1) (fun m v wr => ∃ (i : Nat) (l' : List Ch), v = .int .i64 i ∧ i ≤ o.l.length ∧ m = o.l.length + 1 - i ∧ l'.length = o.l.length ∧ ChRow wr (.slice A5 o.l.length c5) l' ∧ KvAt F6 wr b0 (s.restore o.work o.l).2 ∧ Fr F w wr)
                case atStart => exact ⟨0, o.l, rfl, Nat.zero_le _, rfl, rfl, hr6, h6, fall⟩
                case round =>
                  obtain ⟨i, l', rfl, hi, hm, hll, hr, hk, hf⟩ := hrel
                  have HN := hid hm
                  clear hm
                  by_cases h1 : i < o.l.length
                  · have hrl : kch.R 60 wr 0 (fun _ => True) (.slice A5 o.l.length c5) l' := hr
                    rw [← hll] at hrl
                    obtain ⟨g, cp, hv, _, hgl, cells, hgc⟩ := Kd.R_form hrl (by omega)
                    have hAg : A5 = some ⟨g, 0, none⟩ := by injection hv
                    subst hAg
                    rw [hll] at hrl
                    obtain ⟨co, hcl, hcM, hcc, hcz⟩ := Kd.R_elem hrl ⟨0, 0, 0⟩ (i : Int) (by omega) (by omega)
                    have hcl3 : co.length = 3 := hcl
                    generalize hy : l'.getD (Int.toNat i) ⟨0, 0, 0⟩ = y at hcM
                    have hco : co = encCh y := hcM
                    have hv2 : wr.cell? ⟨g, i * 3 + 2, none⟩ = some (.int .u64 y.val) := hcc 2 _ (by rw [hco]; rfl)
                    have hi1 : (i : Int) < o.l.length := by omega
                    have hi0 : (0 : Int) ≤ i := by omega
                    have hzz := hcz 2
                    have hzz' : wr.frozen? ⟨g, i * 3 + 2, none⟩ = false := hzz
                    clear hzz
                    have HRL := hid hrl
                    have HCC := hid hcc
                    have HCO := hid hco
                    have HK := hid hk
                    have hgF : ¬ F6 g := HF6.out g rfl
                    clear hrl hcc hco hk hr hgc hcM hy hv hcl hcz cells h6 hr6 fall
                    go_wp2_with fail
                    go_roundg (o.l.length + 1 - (i + 1))
                    case measure => rw [HN.out]; omega
                    case rel =>
                      have hseg := Kd.R_seg HRL.out (i : Int) (by omega) (by omega) (j := 2) (seg := [.int .u64 (IntKind.u64.wrap (y.val + 1))]) (x' := ⟨y.kind, y.key, IntKind.u64.wrap (y.val + 1)⟩) hcl3 HCC.out (by simp [kch]) (okp := fun _ => False) (by rw [HCO.out]; rfl) (fun _ q => q.elim)
                      have hw : wr.setCells g (Int.toNat (i : Int) * kch.sz + 2) [.int .u64 (IntKind.u64.wrap (y.val + 1))] = wr.setCell ⟨g, i * 3 + 2, none⟩ (.int .u64 (IntKind.u64.wrap (y.val + 1))) := rfl
                      rw [hw] at hseg
                      have fs : Fr (fun j => j = g) wr (wr.setCell ⟨g, i * 3 + 2, none⟩ (.int .u64 (IntKind.u64.wrap (y.val + 1)))) := (Fr.of_grown hseg.2).mono (fun j hj => by cases hj; rfl)
                      exact ⟨i + 1, _, by go_num, by omega, rfl, by rw [List.length_set]; exact hll, hseg.1, HK.out.fr fs (fun j hj q => hgF (q ▸ hj)), hf.trans fs (fun j hj => .inr (by rw [hj]; exact Nat.le_trans fa.size (HOW.out g rfl)))⟩
                  · go_wp2_with fail
                    (try simp only [Exit.inBlock, Exit.then]); refine bodyPost_ret (results_tmp4 rfl _ _ _) rfl ?_
                    unfold CallPost
                    rw [HC.out]
                    exact ⟨_, F6, rfl, hk, gall, hf, ChRow.none_ _, fun k hk => by simp [Value.ownBlock] at hk⟩
            · have n0 : ¬ o.kind = 0 := by simpa using q0
              have n1 : ¬ o.kind = 1 := by simpa using q1
              have n2 : ¬ o.kind = 2 := by simpa using q2
              have n3 : ¬ o.kind = 3 := by simpa using q3
              have n4 : ¬ o.kind = 4 := by simpa using q4
              have p5 : o.kind = 5 := by simpa using q5
              have HC := hid (show callK s o = _ from by unfold callK; rw [if_neg n0, if_neg n1, if_neg n2, if_neg n3, if_neg n4, if_pos p5])
              have HT := hid (backout_any ha o.work)
              clear p5 n0 n1 n2 n3 n4
              go_wp2_with fail
              refine HT.out.mono ?_
              rintro e w1 ⟨rfl, ⟨F1, h1, g1⟩, f1⟩
              go_wp2_with fail
              (try simp only [Exit.inBlock, Exit.then]); refine bodyPost_ret (results_tmp4 rfl _ _ _) rfl ?_
              exact CallPost.plain HC.out h1 g1 f1 fa
          · have n0 : ¬ o.kind = 0 := by simpa using q0
            have n1 : ¬ o.kind = 1 := by simpa using q1
            have n2 : ¬ o.kind = 2 := by simpa using q2
            have n3 : ¬ o.kind = 3 := by simpa using q3
            have p4 : o.kind = 4 := by simpa using q4
            have HC := hid (show callK s o = _ from by unfold callK; rw [if_neg n0, if_neg n1, if_neg n2, if_neg n3, if_pos p4])
            have HT := hid (commit_any ha o.work)
            clear p4 n0 n1 n2 n3
            go_wp2_with fail
            refine HT.out.mono ?_
            rintro e w1 ⟨rfl, ⟨F1, h1, g1⟩, f1⟩
            go_wp2_with fail
            (try simp only [Exit.inBlock, Exit.then]); refine bodyPost_ret (results_tmp4 rfl _ _ _) rfl ?_
            exact CallPost.plain HC.out h1 g1 f1 fa
        · have n0 : ¬ o.kind = 0 := by simpa using q0
          have n1 : ¬ o.kind = 1 := by simpa using q1
          have n2 : ¬ o.kind = 2 := by simpa using q2
          have p3 : o.kind = 3 := by simpa using q3
          have HC := hid (show callK s o = _ from by unfold callK; rw [if_neg n0, if_neg n1, if_neg n2, if_pos p3])
          have HT := hid (prepare_any ha o.work)
          clear p3 n0 n1 n2
          go_wp2_with fail
          refine HT.out.mono ?_
          rintro e w1 ⟨v, rfl, ⟨F1, h1, g1, o1⟩, r1, f1⟩
          go_wp2_with fail
          (try simp only [Exit.inBlock, Exit.then]); refine bodyPost_ret (results_tmp4 rfl _ _ _) rfl ?_
          unfold CallPost
          rw [HC.out]
          exact ⟨v, F1, rfl, h1, fun i hi => (g1 i hi).imp id (fun q => Nat.le_trans fa.size q), (fa.mono (fun _ q => q.elim)).trans f1 (fun i q => .inl q), r1, fun k hk => ⟨Nat.le_trans fa.size (o1 k hk).1, (o1 k hk).2⟩⟩
      · have n0 : ¬ o.kind = 0 := by simpa using q0
        have n1 : ¬ o.kind = 1 := by simpa using q1
        have p2 : o.kind = 2 := by simpa using q2
        have HC := hid (show callK s o = _ from by unfold callK; rw [if_neg n0, if_neg n1, if_pos p2])
        have HT := hid (del_any ha o.work o.key)
        clear p2 n0 n1
        go_wp2_with fail
        refine HT.out.mono ?_
        rintro e w1 ⟨F1, rfl, h1, g1, f1⟩
        go_wp2_with fail
        (try simp only [Exit.inBlock, Exit.then]); refine bodyPost_ret (results_tmp4 rfl _ _ _) rfl ?_
        exact CallPost.plain HC.out h1 g1 f1 fa
    · have n0 : ¬ o.kind = 0 := by simpa using q0
      have p1 : o.kind = 1 := by simpa using q1
      have HC := hid (show callK s o = _ from by unfold callK; rw [if_neg n0, if_pos p1])
      have HT := hid (put_any ha o.work o.key o.val)
      clear p1 n0
      go_wp2_with fail
      refine HT.out.mono ?_
      rintro e w1 ⟨F1, rfl, h1, g1, f1⟩
      go_wp2_with fail
      (try simp only [Exit.inBlock, Exit.then]); refine bodyPost_ret (results_tmp4 rfl _ _ _) rfl ?_
      exact CallPost.plain HC.out h1 g1 f1 fa
  · have p0 : o.kind = 0 := by simpa using q0
    have HC := hid (show callK s o = _ from by unfold callK; rw [if_pos p0])
    have HT := hid (get_any ha o.work o.key)
    clear p0 
    go_wp2_with fail
    refine HT.out.mono ?_
    rintro e w1 ⟨F1, rfl, h1, g1, f1⟩
    go_wp2_with fail
    (try simp only [Exit.inBlock, Exit.then]); refine bodyPost_ret (results_tmp4 rfl _ _ _) rfl ?_
    exact CallPost.plain HC.out h1 g1 f1 fa
end Go.Proofs.Ytekebjcknhjceaa
