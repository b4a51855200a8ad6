/- Texts of this seat, put together: RdL0, RdL, Args, RowsB. -/
import Derived.Test.YtdejbinmnoabeaaGreatBl23
import Derived.Test.YtdejbinmnoabeaaGreatBl24
import Derived.WalkKit
import Derived.ProofKit
import Derived.SizedLaws
import Derived.Deep.Slices
import Derived.Lib.SmallJoins
import Derived.Deep.Strs
import Derived.OpenShut
import Derived.ShutString
import Derived.ChangeOld
import Derived.ChangeArms
namespace Go.Mine
set_option linter.unusedVariables false
set_option linter.unusedSimpArgs false
theorem kget_len (s : KS) (n k : Int) : (s.get n k).2.ws.length ≤ s.ws.length + 1 := by rw [get_st]; exact touch_len _ _ _ _
theorem kprep_wlen (s : KS) (n : Int) : (s.prepare n).2.ws.length ≤ s.ws.length + 1 := by
  unfold KS.prepare
  split
  · simp
  · split
    · have := gone_len s n
      show (s.gone n).ws.length ≤ _
      omega
    · rename_i w hg
      split
      · simp
      · split
        · have := gone_len s n
          show (s.gone n).ws.length ≤ _
          omega
        · show (aput n ⟨w.l, true⟩ s.ws).length ≤ _
          rw [aput_len hg]
          omega
theorem kcommit_wlen (s : KS) (n : Int) : (s.commit n).2.ws.length ≤ s.ws.length + 1 := by
  unfold KS.commit
  split
  · simp
  · have := gone_len ((s.listOf n).foldl setV s) n
    rw [setVs_ws] at this
    show (((s.listOf n).foldl setV s).gone n).ws.length ≤ _
    omega
theorem kback_wlen (s : KS) (n : Int) : (s.backout n).2.ws.length ≤ s.ws.length := by
  unfold KS.backout
  split
  · exact Nat.le_refl _
  · exact gone_len s n
theorem kcommit_same (s : KS) (n : Int) (h : n < 1) : (s.commit n).2 = s := by unfold KS.commit; rw [if_pos h]
theorem kback_vt (s : KS) (n : Int) : (s.backout n).2.vs = s.vs ∧ (s.backout n).2.th = s.th := by
  unfold KS.backout
  split <;> exact ⟨rfl, rfl⟩
theorem rest_len {s : RM} (hok : s.Ok) (n : Int) (l : List Ch) : (s.restore n l).2.k.ws.length ≤ s.k.ws.length + 1 := by
  have h1 := Go.Proofs.YtdejbinmnoabeaaGreat.k_restore_len hok.k n (l.take (cutN l))
  unfold RM.restore
  split
  · simp
  · split
    · simp
    · split
      · exact h1
      · split
        · show (KS.ws (if 0 < cutN l then ((s.k.restore n (l.take (cutN l))).2.backout n).2 else (s.k.restore n (l.take (cutN l))).2)).length ≤ s.k.ws.length + 1
          split
          · exact Nat.le_trans (kback_wlen _ n) h1
          · exact h1
        · exact h1
theorem rest_vt (s : RM) (n : Int) (l : List Ch) : (s.restore n l).2.k.vs = s.k.vs ∧ (s.restore n l).2.k.th = s.k.th := by
  have h1 := restore_vt s.k n (l.take (cutN l))
  unfold RM.restore
  split
  · exact ⟨rfl, rfl⟩
  · split
    · exact ⟨rfl, rfl⟩
    · split
      · exact h1
      · split
        · show KS.vs (if 0 < cutN l then ((s.k.restore n (l.take (cutN l))).2.backout n).2 else (s.k.restore n (l.take (cutN l))).2) = _ ∧ KS.th (if 0 < cutN l then ((s.k.restore n (l.take (cutN l))).2.backout n).2 else (s.k.restore n (l.take (cutN l))).2) = _
          split
          · have h2 := kback_vt (s.k.restore n (l.take (cutN l))).2 n
            exact ⟨h2.1.trans h1.1, h2.2.trans h1.2⟩
          · exact h1
        · exact h1
theorem callR_len {s : RM} (hok : s.Ok) (o : ROp) : (callR s o).2.k.ws.length ≤ s.k.ws.length + 1 := by
  unfold callR
  split
  · unfold RM.get
    split
    · simp
    · exact kget_len _ _ _
  · split
    · unfold RM.change
      split
      · simp
      · exact change_len _ _ _
    · split
      · unfold RM.change
        split
        · simp
        · exact change_len _ _ _
      · split
        · unfold RM.push
          split <;> simp
        · split
          · unfold RM.pop
            split <;> simp
          · split
            · unfold RM.prepare
              split
              · simp
              · exact kprep_wlen _ _
            · split
              · unfold RM.commit
                split
                · simp
                · exact kcommit_wlen _ _
              · split
                · unfold RM.backout
                  split
                  · simp
                  · exact Nat.le_succ_of_le (kback_wlen _ _)
                · split
                  · exact rest_len hok _ _
                  · simp
theorem callR_agree {LP : List (Int × Int)} {s : RM} (h : Agree LP s.k) (hok : s.Ok) (o : ROp) : Agree (callLP LP s o) (callR s o).2.k := by
  by_cases h6 : o.kind = 6
  · unfold callLP callR
    rw [if_pos h6, if_neg (by omega), if_neg (by omega), if_neg (by omega), if_neg (by omega), if_neg (by omega), if_neg (by omega), if_pos h6]
    unfold RM.commit
    split
    · rename_i q
      have hn : o.work < 1 := by
        rcases s.fit_cases o.work with ⟨a, _⟩ | ⟨_, e, _⟩ | ⟨_, e, _⟩
        · exact a
        · rw [q] at e; cases e
        · rw [q] at e; cases e
      have := h.commit hok.k o.work
      rw [kcommit_same _ _ hn] at this
      exact this
    · exact h.commit hok.k o.work
  · unfold callLP callR
    rw [if_neg h6]
    split
    · unfold RM.get
      split
      · exact h
      · have e := touch_vt s.k o.work o.key false
        rw [← get_st] at e
        exact h.same e.1 e.2
    · split
      · unfold RM.change
        split
        · exact h
        · have e := change_vt s.k o.work ⟨1, o.key, o.val⟩
          exact h.same e.1 e.2
      · split
        · unfold RM.change
          split
          · exact h
          · have e := change_vt s.k o.work ⟨2, o.key, 0⟩
            exact h.same e.1 e.2
        · split
          · unfold RM.push
            split <;> exact h
          · split
            · unfold RM.pop
              split <;> exact h
            · split
              · unfold RM.prepare
                split
                · exact h
                · have e := prepare_vt s.k o.work
                  exact h.same e.1 e.2
              · split
                · unfold RM.backout
                  split
                  · exact h
                  · have e := kback_vt s.k o.work
                    exact h.same e.1 e.2
                · split
                  · have e := rest_vt s o.work o.l
                    exact h.same e.1 e.2
                  · exact h
theorem callR_list {s : RM} (hok : s.Ok) (o : ROp) : (callR s o).1.l.length ≤ 48 := by
  unfold callR
  split
  · exact Nat.zero_le _
  · split
    · exact Nat.zero_le _
    · split
      · exact Nat.zero_le _
      · split
        · exact Nat.zero_le _
        · split
          · exact Nat.zero_le _
          · split
            · show (s.prepare o.work).1.1.length ≤ 48
              have h1 := Go.Proofs.YtdejbinmnoabeaaGreat.kprep_len hok.k o.work
              have h2 := Go.Proofs.YtdejbinmnoabeaaGreat.qprep_len hok.q o.work
              unfold RM.prepare
              split
              · exact Nat.zero_le _
              · show ((s.k.prepare o.work).1.1 ++ (s.q.prepare o.work).1.1).length ≤ 48
                rw [List.length_append]
                omega
            · split
              · exact Nat.zero_le _
              · split
                · exact Nat.zero_le _
                · split
                  · exact Nat.zero_le _
                  · exact Nat.zero_le _
end Go.Mine
namespace Go.Proofs.YtdejbinmnoabeaaGreat
open Go.RowKit Go.Mine Go.Proofs.YtdejbinmnoabeaaGreatW.PrintWords
set_option linter.unusedVariables false
set_option linter.unusedSimpArgs false
def encOp (o : ROp) : List Value := [.int .i64 o.kind, .int .i64 o.work, .int .i64 o.key, .int .u64 o.val, .slice o.la o.l.length o.lc]
def OpsAt (w : World) (B : Nat) (A : Option Addr) (l : List ROp) : Prop :=
  ∀ i x, l[i]? = some x → ∃ b off, A = some ⟨b, off, none⟩ ∧ b < B ∧ (∀ j v, (encOp x)[j]? = some v → w.cell? ⟨b, off + i * 5 + j, none⟩ = some v) ∧ ChAt w B x.la x.l ∧ x.l.length ≤ x.lc
theorem OpsAt.below {w w' : World} {B : Nat} {A : Option Addr} {l : List ROp} (h : OpsAt w B A l) (hb : Below B w w') : OpsAt w' B A l := by
  intro i x hx
  obtain ⟨b, off, e, hlt, hc, h1, h2⟩ := h i x hx
  exact ⟨b, off, e, hlt, fun j v hv => (hb.cell (p := ⟨b, off + i * 5 + j, none⟩) hlt).trans (hc j v hv), Q.RowAt.below h1 hb, h2⟩
theorem RAt.ok {F : Nat → Prop} {w : World} {b : Nat} {s : RM} (h : RAt F w b s) : s.Ok := ⟨h.kok, h.qok⟩
theorem RowAt.block {α : Type} {f : α → List Value} {sz B : Nat} {w : World} {A : Option Addr} {l : List α} (h : Q.RowAt f sz w B A l) (hl : l ≠ []) {b off : Nat} (e : A = some ⟨b, off, none⟩) : b < B := by
  obtain ⟨x, hx⟩ : ∃ x, l[0]? = some x := ⟨_, List.getElem?_eq_getElem (List.length_pos_iff.2 hl)⟩
  obtain ⟨b', off', e', hlt, _⟩ := h 0 x hx
  rw [e] at e'
  cases e'
  exact hlt
theorem imgR_len (s : RM) (h : s.Ok) : (imgR s).P.length ≤ 16 ∧ (imgR s).L.length ≤ 16 := by
  refine ⟨pairsK_len _ _, ?_⟩
  have := h.q.sz
  show (s.q.its.map (·.val)).length ≤ 16
  rw [List.length_map]; omega
theorem ImgAt.up2 {w w' : World} {v : Value} {m : Img} (h : ImgAt w w.heap.size v m) (hb : Below w.heap.size w w') : ImgAt w' w'.heap.size v m := (h.below hb).up hb.size
structure BN (N : Nat) (w0 w : World) : Prop where
  b : Below N w0 w
  s : N ≤ w.heap.size
theorem BN.step {N : Nat} {w0 w w' : World} (h : BN N w0 w) (hb : Below w.heap.size w w') : BN N w0 w' := ⟨h.b.trans (hb.mono h.s), Nat.le_trans h.s hb.size⟩
def nilDoc : Array Value := #[.slice none 0 0, .slice none 0 0, .slice none 0 0, .slice none 0 0, .slice none 0 0, .int .i64 0]
theorem DR.new (w : World) : DR (fun i => i = w.heap.size) (w.alloc (.cells nilDoc 38)) w.heap.size [] RM.new := by
  refine ⟨fun i => i = w.heap.size, fun i => i = w.heap.size, [], .slice none 0 0, .slice none 0 0, .slice none 0 0, [], .slice none 0 0, .slice none 0 0, ⟨⟨?_, rfl, (MapKept.heap_alloc w _).1, Kd.R_nil _ _ _ _ _, Kd.R_nil _ _ _ _ _, Kd.R_nil _ _ _ _ _, ?_, ?_, ?_, fun x hx => absurd hx List.not_mem_nil, List.Pairwise.nil⟩, rfl, ⟨?_, rfl, (MapKept.heap_alloc w _).1, Q.FR.nil _ _ _, Q.FR.nil _ _ _, ?_, ?_, fun x hx => absurd hx List.not_mem_nil, List.Pairwise.nil⟩, rfl, fun i h _ => h, fun i h => h, fun i h => h, ?_⟩⟩
  · intro i hi; subst hi; simp
  · intro k hk; simp [Value.ownBlock] at hk
  · intro k hk; simp [Value.ownBlock] at hk
  · intro k hk; simp [Value.ownBlock] at hk
  · intro i hi; subst hi; simp
  · intro k hk; simp [Value.ownBlock] at hk
  · intro k hk; simp [Value.ownBlock] at hk
  · intro i hi; subst hi; simp
structure Tw (w0 w : World) (F G : Nat → Prop) (b0 b1 : Nat) (LP : List (Int × Int)) (s t : RM) : Prop where
  l : RAt F w b0 s
  r : DR G w b1 LP t
  ap : ∀ i, F i → ¬ G i
  fB : ∀ i, F i → w0.heap.size ≤ i
  gB : ∀ i, G i → w0.heap.size ≤ i
  bn : BN w0.heap.size w0 w
section
variable {w0 w w' : World} {F F' G G' : Nat → Prop} {b0 b1 : Nat} {LP LP' : List (Int × Int)} {s s' t t' : RM}
theorem Tw.below (h : Tw w0 w F G b0 b1 LP s t) (hb : Below w.heap.size w w') : Tw w0 w' F G b0 b1 LP s t :=
  ⟨RX.below h.l hb, h.r.below hb, h.ap, h.fB, h.gB, h.bn.step hb⟩
theorem Tw.left (h : Tw w0 w F G b0 b1 LP s t) (hk : RAt F' w' b0 s') (hg : K.Grew F F' w) (hf : Fr F w w') : Tw w0 w' F' G b0 b1 LP s' t := by
  refine ⟨hk, h.r.fr hf (fun i hi q => h.ap i q hi), fun i hi q => ?_, fun i hi => ?_, h.gB, ⟨h.bn.b.trans (hf.below h.bn.s (fun k hk q => by have := h.fB k q; omega)), Nat.le_trans h.bn.s hf.size⟩⟩
  · rcases hg i hi with r | r
    · exact h.ap i r q
    · have := h.r.fb i q; omega
  · rcases hg i hi with r | r
    · exact h.fB i r
    · exact Nat.le_trans h.bn.s r
theorem Tw.right (h : Tw w0 w F G b0 b1 LP s t) (hk : DR G' w' b1 LP' t') (hg : K.Grew G G' w) (hf : Fr G w w') : Tw w0 w' F G' b0 b1 LP' s t' := by
  refine ⟨RX.fr h.l hf (fun i hi q => h.ap i hi q), hk, fun i hi q => ?_, h.fB, fun i hi => ?_, ⟨h.bn.b.trans (hf.below h.bn.s (fun k hk q => by have := h.gB k q; omega)), Nat.le_trans h.bn.s hf.size⟩⟩
  · rcases hg i q with r | r
    · exact h.ap i hi r
    · have := RX.fb h.l i hi; omega
  · rcases hg i hi with r | r
    · exact h.gB i r
    · exact Nat.le_trans h.bn.s r
end
theorem beside_of {G : Nat → Prop} {B : Nat} (hG : ∀ i, G i → B ≤ i) {α : Type} {f : α → List Value} {sz : Nat} {w : World} {A : Option Addr} {l : List α} (hr : Q.RowAt f sz w B A l) (hl : l ≠ []) : Q.Beside G A := fun b off e hF => by
  have := RowAt.block hr hl e
  have := hG b hF
  omega
def LvE (w0 w : World) (b0 b1 : Nat) (LP : List (Int × Int)) (s : RM) (A1 A2 : Option Addr) (l : List Ch) : Prop :=
  ∃ F G, Tw w0 w F G b0 b1 LP s s ∧ ChAt w w.heap.size A1 l ∧ ChAt w w.heap.size A2 l
theorem LvE.below {w0 w w' : World} {b0 b1 : Nat} {LP : List (Int × Int)} {s : RM} {A1 A2 : Option Addr} {l : List Ch} (h : LvE w0 w b0 b1 LP s A1 A2 l) (hb : Below w.heap.size w w') : LvE w0 w' b0 b1 LP s A1 A2 l := by
  obtain ⟨F, G, h1, h2, h3⟩ := h
  exact ⟨F, G, h1.below hb, Q.RowAt.up (Q.RowAt.below h2 hb) hb.size, Q.RowAt.up (Q.RowAt.below h3 hb) hb.size⟩
theorem c5_step {N : Nat} {w0 w w' : World} {b o : Nat} {a0 a1 a2 a3 a4 : Value} (hb : Below w.heap.size w w') (h : w.cell? ⟨b, o, none⟩ = some a0 ∧ w.cell? ⟨b, o + 1, none⟩ = some a1 ∧ w.cell? ⟨b, o + 2, none⟩ = some a2 ∧ w.cell? ⟨b, o + 3, none⟩ = some a3 ∧ w.cell? ⟨b, o + 4, none⟩ = some a4 ∧ BN N w0 w) : w'.cell? ⟨b, o, none⟩ = some a0 ∧ w'.cell? ⟨b, o + 1, none⟩ = some a1 ∧ w'.cell? ⟨b, o + 2, none⟩ = some a2 ∧ w'.cell? ⟨b, o + 3, none⟩ = some a3 ∧ w'.cell? ⟨b, o + 4, none⟩ = some a4 ∧ BN N w0 w' :=
  ⟨(hb.cell (World.block_lt_of_cell? _ _ h.1)).trans h.1, (hb.cell (World.block_lt_of_cell? _ _ h.2.1)).trans h.2.1, (hb.cell (World.block_lt_of_cell? _ _ h.2.2.1)).trans h.2.2.1, (hb.cell (World.block_lt_of_cell? _ _ h.2.2.2.1)).trans h.2.2.2.1, (hb.cell (World.block_lt_of_cell? _ _ h.2.2.2.2.1)).trans h.2.2.2.2.1, h.2.2.2.2.2.step hb⟩
theorem op_cells {w : World} {B : Nat} {A : Option Addr} {l : List ROp} {i : Nat} {x : ROp} {b off : Nat} (h : OpsAt w B A l) (hx : l[i]? = some x) (e : A = some ⟨b, off, none⟩) : w.cell? ⟨b, off + i * 5, none⟩ = some (.int .i64 x.kind) ∧ w.cell? ⟨b, off + i * 5 + 1, none⟩ = some (.int .i64 x.work) ∧ w.cell? ⟨b, off + i * 5 + 2, none⟩ = some (.int .i64 x.key) ∧ w.cell? ⟨b, off + i * 5 + 3, none⟩ = some (.int .u64 x.val) ∧ w.cell? ⟨b, off + i * 5 + 4, none⟩ = some (.slice x.la x.l.length x.lc) := by
  obtain ⟨b', off', e', hb, hc, _⟩ := h i x hx
  rw [e] at e'
  cases e'
  exact ⟨hc 0 _ rfl, hc 1 _ rfl, hc 2 _ rfl, hc 3 _ rfl, hc 4 _ rfl⟩
end Go.Proofs.YtdejbinmnoabeaaGreat
namespace Go.Proofs.YtdejbinmnoabeaaGreat
open Go.RowKit Go.Mine Go.Proofs.YtdejbinmnoabeaaGreatW.PrintWords
set_option linter.unusedVariables false
set_option linter.unusedSimpArgs false
theorem call_two {w0 w : World} {F G : Nat → Prop} {b0 b1 : Nat} {LP : List (Int × Int)} {s : RM} (ht : Tw w0 w F G b0 b1 LP s s) (hok : s.Ok) (hag : Agree LP s.k) (hk : s.k.ws.length ≤ 60) (x : ROp) (hch : ChAt w0 w0.heap.size x.la x.l) (hlc : x.l.length ≤ x.lc) (h40 : x.l.length ≤ 40) :
    ∀ w', Below w.heap.size w w' → Calls Tryz.prog 8 #[.pointer (some ⟨b0, 0, none⟩), .agg #[.int .i64 x.kind, .int .i64 x.work, .int .i64 x.key, .int .u64 x.val, .slice x.la x.l.length x.lc]] w' fun e w'' => ∃ A1 c1, e = .returned (.agg #[.int .u64 (callR s x).1.v, .bool (callR s x).1.t, .slice A1 (callR s x).1.l.length c1, .int .i64 (callR s x).1.e]) ∧ BN w0.heap.size w0 w'' ∧
      Hid (∀ w3, Below w''.heap.size w'' w3 → Calls Tryz.prog 9 #[.pointer (some ⟨b1, 0, none⟩), .agg #[.int .i64 x.kind, .int .i64 x.work, .int .i64 x.key, .int .u64 x.val, .slice x.la x.l.length x.lc]] w3 fun e w4 => ∃ A2 c2, e = .returned (.agg #[.int .u64 (callR s x).1.v, .bool (callR s x).1.t, .slice A2 (callR s x).1.l.length c2, .int .i64 (callR s x).1.e]) ∧ BN w0.heap.size w0 w4 ∧ Hid (LvE w0 w4 b0 b1 (callLP LP s x) (callR s x).2 A1 A2 (callR s x).1.l)) := by
  intro w' hb
  have t1 := ht.below hb
  have hch1 := Q.RowAt.below hch t1.bn.b
  refine (call_any t1.l x (fun _ => ⟨Q.RowAt.up hch1 t1.bn.s, beside_of t1.fB hch1, by omega, hlc⟩)).mono ?_
  rintro e w'' ⟨A1, c1, rfl, ⟨F', hk', hg, ho⟩, hat, hf⟩
  have t2 := t1.left hk' hg hf
  refine ⟨A1, c1, rfl, t2.bn, hid (fun w3 hb3 => ?_)⟩
  have t3 := t2.below hb3
  have hch3 := Q.RowAt.below hch t3.bn.b
  refine (model_any t3.r hag (by omega) hok x (fun _ => ⟨Q.RowAt.up hch3 t3.bn.s, by omega⟩)).mono ?_
  rintro e w4 ⟨A2, c2, rfl, ⟨G', hd', hg', ho'⟩, hat', hf'⟩
  have t4 := t3.right hd' hg' hf'
  refine ⟨A2, c2, rfl, t4.bn, hid ⟨_, _, t4, ?_, hat'⟩⟩
  have h3 := Q.RowAt.up (Q.RowAt.below hat hb3) hb3.size
  exact row_fr h3 hf' (fun k off e q => by have := (ho k off e).1; have := t1.r.fb k q; omega)
set_option maxRecDepth 100000 in
set_option maxHeartbeats 8000000 in
theorem lives_any (A : Option Addr) (l : List ROp) (c : Nat) (w : World) (hl : OpsAt w w.heap.size A l) :
    Calls Tryz.prog 3 #[.slice A l.length c] w fun e w' => e = .returned (.bool true) ∧ Below w.heap.size w w' := by
  have HL := hid hl
  clear hl
  go_enter Tryz.func3, Tryz.ntmps3
  go_wp2_with fail
  refine (new_any w).mono ?_
  rintro e w1 ⟨rfl, hw1⟩
  have hr1 : RAt (fun i => i = w.heap.size) w1 w.heap.size RM.new := by rw [hw1]; exact new_rat w
  have hs1 : w1.heap.size = w.heap.size + 1 := by rw [hw1]; simp
  have hb1 : Below w.heap.size w w1 := by rw [hw1]; exact (Below.refl _ _).alloc (Nat.le_refl _) _
  have hb2 : Below w1.heap.size w1 (w1.alloc (.cells #[.slice none 0 0, .slice none 0 0, .slice none 0 0, .slice none 0 0, .slice none 0 0, .int .i64 0] 38)) := (Below.refl _ _).alloc (Nat.le_refl _) _
  have ht0 : Tw w (w1.alloc (.cells #[.slice none 0 0, .slice none 0 0, .slice none 0 0, .slice none 0 0, .slice none 0 0, .int .i64 0] 38)) (fun i => i = w.heap.size) (fun i => i = w1.heap.size) w.heap.size w1.heap.size [] RM.new RM.new :=
    ⟨RX.below hr1 hb2, DR.new w1, fun i hi q => by omega, fun i hi => by omega, fun i hi => by omega, ⟨hb1.trans (hb2.mono hb1.size), Nat.le_trans hb1.size hb2.size⟩⟩
  have HT0 := hid ht0
  clear hr1 hb1 hb2 ht0 hw1 hs1
  go_wp2_with fail
  generalize (fun i => i = w.heap.size) = F0 at *
  generalize (fun i => i = w1.heap.size) = G0 at *
  generalize hW2 : w1.alloc (.cells #[.slice none 0 0, .slice none 0 0, .slice none 0 0, .slice none 0 0, .slice none 0 0, .int .i64 0] 38) = wx at *
  obtain ⟨b0, hb0⟩ : ∃ b0, b0 = w.heap.size := ⟨_, rfl⟩
  obtain ⟨b1, hb1⟩ : ∃ b1, b1 = w1.heap.size := ⟨_, rfl⟩
  rw [← hb1] at HT0 ⊢
  have HT1 : Hid (Tw w wx F0 G0 b0 b1 [] RM.new RM.new) := hid (by rw [hb0]; exact HT0.out)
  rw [← hb0]
  clear HT0 hW2 hb1 hb0
  go_loopg [5] 61 (fun m v wr => ∃ (i : Nat) (F G : Nat → Prop) (LP : List (Int × Int)) (s : RM), v = .int .i64 i ∧ i ≤ l.length ∧ i ≤ 60 ∧ m = 61 - i ∧ s.Ok ∧ Agree LP s.k ∧ s.k.ws.length ≤ i ∧ Tw w wr F G b0 b1 LP s s)
  case atStart => exact ⟨0, F0, G0, [], RM.new, rfl, Nat.zero_le _, Nat.zero_le _, rfl, RM.Ok.new, Agree.new, Nat.zero_le _, HT1.out⟩
  case round =>
    obtain ⟨i, F, G, LP, s, rfl, hi1, hi2, hm, hok, hag, hkl, ht⟩ := hrel
    have HN := hid hm
    have HT := hid ht
    have HOK := hid hok
    have HAG := hid hag
    have HKL := hid hkl
    clear hm ht hok hag hkl HT1
    by_cases h1 : i < l.length
    · by_cases h2 : (i : Int) < 60
      · obtain ⟨x, hx⟩ : ∃ x, l[i]? = some x := ⟨_, List.getElem?_eq_getElem h1⟩
        obtain ⟨b, off, hA, hb, _, hch, hlc⟩ := HL.out i x hx
        subst hA
        have HSC := hid (show ∀ w', BN w.heap.size w w' → (w'.cell? ⟨b, off + i * 5, none⟩ = some (.int .i64 x.kind) ∧ w'.cell? ⟨b, off + i * 5 + 1, none⟩ = some (.int .i64 x.work) ∧ w'.cell? ⟨b, off + i * 5 + 2, none⟩ = some (.int .i64 x.key) ∧ w'.cell? ⟨b, off + i * 5 + 3, none⟩ = some (.int .u64 x.val) ∧ w'.cell? ⟨b, off + i * 5 + 4, none⟩ = some (.slice x.la x.l.length x.lc) ∧ BN w.heap.size w w') from fun w' hbn => by
          have hc := op_cells (HL.out.below hbn.b) hx rfl
          exact ⟨hc.1, hc.2.1, hc.2.2.1, hc.2.2.2.1, hc.2.2.2.2, hbn⟩)
        have hS := HSC.out wr HT.out.bn
        obtain ⟨k0, k1, k2, k3, k4, _⟩ := HSC.out wr HT.out.bn
        by_cases h40 : x.l.length ≤ 40
        · have h40' : (x.l.length : Int) ≤ 40 := by omega
          have h40d : decide ((40 : Int) < x.l.length) = false := decide_eq_false (by omega)
          have hC := call_two HT.out HOK.out HAG.out (by have := HKL.out; omega) x hch hlc h40
          have hok' := HOK.out.call x
          have hag' := callR_agree HAG.out HOK.out x
          have hkl' := callR_len HOK.out x
          have hll := callR_list HOK.out x
          obtain ⟨LP', hLP'⟩ : ∃ LP', callLP LP s x = LP' := ⟨_, rfl⟩
          rw [hLP'] at hC hag'
          clear hLP'
          generalize callR s x = R at *
          obtain ⟨⟨ra, rt, rl, re⟩, s'⟩ := R
          simp only at hC hok' hag' hkl' hll
          have HC := hid hC
          have HOK2 := hid hok'
          have HAG2 := hid hag'
          have HKL2 := hid (show s'.k.ws.length ≤ i + 1 from by have := HKL.out; omega)
          obtain ⟨bz, hbz⟩ : ∃ bz, (s'.k.busy x.work || s'.q.busy x.work) = bz := ⟨_, rfl⟩
          obtain ⟨m, hm⟩ : ∃ m, imgR s' = m := ⟨_, rfl⟩
          have hml := imgR_len s' hok'
          rw [hm] at hml
          have HML := hid hml
          have K7 : Hid (∀ w' A1 A2 c1 c2, LvE w w' b0 b1 LP' s' A1 A2 rl → Calls Tryz.prog 7 #[.agg #[.int .u64 ra, .bool rt, .slice A1 rl.length c1, .int .i64 re], .agg #[.int .u64 ra, .bool rt, .slice A2 rl.length c2, .int .i64 re]] w' fun e w'' => e = .returned (.bool true) ∧ Below w'.heap.size w' w'') := hid (fun w' A1 A2 c1 c2 h => by
            obtain ⟨F', G', _, h1, h2⟩ := h
            exact same_told ra rt re h1 h2 (by omega))
          have K10 : Hid (∀ w' A1 A2, LvE w w' b0 b1 LP' s' A1 A2 rl → Calls Tryz.prog 10 #[.pointer (some ⟨b0, 0, none⟩), .int .i64 x.work] w' fun e w'' => e = .returned (.bool bz) ∧ w' = w'') := hid (fun w' A1 A2 h => by
            obtain ⟨F', G', ht, _, _⟩ := h
            rw [← hbz]; exact busy_any ht.l x.work)
          have K11 : Hid (∀ w' A1 A2, LvE w w' b0 b1 LP' s' A1 A2 rl → Calls Tryz.prog 11 #[.pointer (some ⟨b1, 0, none⟩), .int .i64 x.work] w' fun e w'' => e = .returned (.bool bz) ∧ w' = w'') := hid (fun w' A1 A2 h => by
            obtain ⟨F', G', ht, _, _⟩ := h
            rw [← hbz]; exact dbusy_any ht.r (by have := HKL2.out; omega) HOK2.out x.work)
          have K14 : Hid (∀ w' A1 A2, LvE w w' b0 b1 LP' s' A1 A2 rl → Calls Tryz.prog 14 #[.pointer (some ⟨b0, 0, none⟩)] w' fun e w'' => ∃ v, e = .returned v ∧ ImgAt w'' w''.heap.size v m ∧ Below w'.heap.size w' w'') := hid (fun w' A1 A2 h => by
            obtain ⟨F', G', ht, _, _⟩ := h
            refine (image_any ht.l).mono ?_
            rintro e w'' ⟨v, rfl, hv, hb⟩
            have hv2 := hv.at_
            rw [show imgR ⟨s'.k, s'.q⟩ = m from hm] at hv2
            exact ⟨v, rfl, hv2, hb⟩)
          have K15 : Hid (∀ w' A1 A2, LvE w w' b0 b1 LP' s' A1 A2 rl → Calls Tryz.prog 15 #[.pointer (some ⟨b1, 0, none⟩)] w' fun e w'' => ∃ v, e = .returned v ∧ ImgAt w'' w''.heap.size v m ∧ Below w'.heap.size w' w'') := hid (fun w' A1 A2 h => by
            obtain ⟨F', G', ht, _, _⟩ := h
            refine (dimage_any ht.r HAG2.out HOK2.out).mono ?_
            rintro e w'' ⟨v, rfl, hv, hb⟩
            have hv2 := hv.at_
            rw [hm] at hv2
            exact ⟨v, rfl, hv2, hb⟩)
          have K13 : Hid (∀ w' v, ImgAt w' w'.heap.size v m → Calls Tryz.prog 13 #[v] w' fun e w'' => ∃ v', e = .returned v' ∧ ImgAt w'' w''.heap.size v' m ∧ Below w'.heap.size w' w'') := hid (fun w' v h => as_any h (by have := HML.out.1; omega))
          have K12 : Hid (∀ w' v v', ImgAt w' w'.heap.size v m → ImgAt w' w'.heap.size v' m → Calls Tryz.prog 12 #[v, v'] w' fun e w'' => e = .returned (.bool true) ∧ Below w'.heap.size w' w'') := hid (fun w' v v' h h' => sameimg_any h h' (by have := HML.out.1; omega) (by have := HML.out.2; omega))
          clear hx hb hch hlc hC hok' hag' hkl' hll hbz hm hml
          go_wp2_with fail
          clear k0 k1 k2 k3 k4
          cases bz
          all_goals
            go_region_held3 (fun w' => w'.cell? ⟨b, off + i * 5, none⟩ = some (.int .i64 x.kind) ∧ w'.cell? ⟨b, off + i * 5 + 1, none⟩ = some (.int .i64 x.work) ∧ w'.cell? ⟨b, off + i * 5 + 2, none⟩ = some (.int .i64 x.key) ∧ w'.cell? ⟨b, off + i * 5 + 3, none⟩ = some (.int .u64 x.val) ∧ w'.cell? ⟨b, off + i * 5 + 4, none⟩ = some (.slice x.la x.l.length x.lc) ∧ BN w.heap.size w w') (first | exact c5_step (Q.bd1 _) (by assumption) | exact c5_step (Q.bdN _ _) (by assumption) | assumption | exact c5_step (by assumption) (by assumption)) (first
              | (go_at_call 8; refine (HC.out _ (by repeat (first | assumption | exact Below.refl _ _ | exact Q.bd1 _ | exact Q.bdN _ _ | refine bel_tr ?_ (by assumption)))).mono ?_; rintro e wa ⟨A1, c1, rfl, bna, K9⟩; have sa := HSC.out _ bna)
              | (go_at_call 9; refine (K9.out _ (by repeat (first | assumption | exact Below.refl _ _ | exact Q.bd1 _ | exact Q.bdN _ _ | refine bel_tr ?_ (by assumption)))).mono ?_; rintro e wb ⟨A2, c2, rfl, bnb, HLV⟩; have sb := HSC.out _ bnb)
              | (go_at_call 7; refine (K7.out _ _ _ _ _ (LvE.below HLV.out (by repeat (first | assumption | exact Below.refl _ _ | exact Q.bd1 _ | exact Q.bdN _ _ | refine bel_tr ?_ (by assumption))))).mono ?_; rintro e wc ⟨rfl, fc⟩)
              | (go_at_call 10; refine (K10.out _ _ _ (LvE.below HLV.out (by repeat (first | assumption | exact Below.refl _ _ | exact Q.bd1 _ | exact Q.bdN _ _ | refine bel_tr ?_ (by assumption))))).mono ?_; rintro e wd ⟨rfl, rfl⟩)
              | (go_at_call 11; refine (K11.out _ _ _ (LvE.below HLV.out (by repeat (first | assumption | exact Below.refl _ _ | exact Q.bd1 _ | exact Q.bdN _ _ | refine bel_tr ?_ (by assumption))))).mono ?_; rintro e we ⟨rfl, rfl⟩)
              | (go_at_call 14; refine (K14.out _ _ _ (LvE.below HLV.out (by repeat (first | assumption | exact Below.refl _ _ | exact Q.bd1 _ | exact Q.bdN _ _ | refine bel_tr ?_ (by assumption))))).mono ?_; rintro e wf ⟨vf, rfl, jf, ff⟩)
              | (go_at_call 13; refine (K13.out _ _ (by first | assumption | exact ImgAt.up2 (by assumption) (by repeat (first | assumption | exact Below.refl _ _ | exact Q.bd1 _ | exact Q.bdN _ _ | refine bel_tr ?_ (by assumption))))).mono ?_; rintro e wg ⟨vg, rfl, jg, fg⟩)
              | (go_at_call 15; refine (K15.out _ _ _ (LvE.below HLV.out (by repeat (first | assumption | exact Below.refl _ _ | exact Q.bd1 _ | exact Q.bdN _ _ | refine bel_tr ?_ (by assumption))))).mono ?_; rintro e wh ⟨vh, rfl, jh, fh⟩)
              | (go_at_call 12; refine (K12.out _ _ _ (by first | assumption | exact ImgAt.up2 (by assumption) (by repeat (first | assumption | exact Below.refl _ _ | exact Q.bd1 _ | exact Q.bdN _ _ | refine bel_tr ?_ (by assumption)))) (by first | assumption | exact ImgAt.up2 (by assumption) (by repeat (first | assumption | exact Below.refl _ _ | exact Q.bd1 _ | exact Q.bdN _ _ | refine bel_tr ?_ (by assumption))))).mono ?_; rintro e wi ⟨rfl, fi⟩))
            all_goals
              have HLW := hid (LvE.below HLV.out (by repeat (first | assumption | exact Below.refl _ _ | exact Q.bd1 _ | exact Q.bdN _ _ | refine bel_tr ?_ (by assumption))) : LvE w wi b0 b1 LP' s' A1 A2 rl)
              go_wp2_with fail
              go_roundg (61 - (i + 1))
              case measure => rw [HN.out]; omega
              case rel =>
                obtain ⟨F', G', ht', _, _⟩ := HLW.out
                exact ⟨i + 1, F', G', LP', s', by go_num, by omega, by omega, rfl, HOK2.out, HAG2.out, HKL2.out, ht'⟩
        · have h40d : decide ((40 : Int) < x.l.length) = true := decide_eq_true (by omega)
          have HBN := hid HT.out.bn
          clear hx hb hch hlc hS
          go_wp2_with fail
          refine (alive_any _).mono ?_
          rintro e w3 ⟨rfl, f3⟩
          go_wp2_with fail
          go_ret
          exact ⟨rfl, (HBN.out.step f3).b⟩
      · have HBN := hid HT.out.bn
        go_wp2_with fail
        refine (alive_any _).mono ?_
        rintro e w3 ⟨rfl, f3⟩
        go_wp2_with fail
        go_ret
        exact ⟨rfl, (HBN.out.step f3).b⟩
    · have HBN := hid HT.out.bn
      go_wp2_with fail
      refine (alive_any _).mono ?_
      rintro e w3 ⟨rfl, f3⟩
      go_wp2_with fail
      go_ret
      exact ⟨rfl, (HBN.out.step f3).b⟩
end Go.Proofs.YtdejbinmnoabeaaGreat
namespace Go.Mine
open Go.RowKit Go.Deep
set_option linter.unusedVariables false
set_option linter.unusedSimpArgs false
def RowR {α : Type} (E : World → α → List Value → Prop) (w : World) (B size : Nat) (A : Option Addr) (ys : List α) : Prop :=
  ∀ i y, ys[i]? = some y → ∃ b off cs, A = some ⟨b, off, none⟩ ∧ b < B ∧ E w y cs ∧ cs.length = size ∧ ∀ j v, cs[j]? = some v → w.cell? ⟨b, off + i * size + j, none⟩ = some v
theorem RowR.below {α : Type} {E : World → α → List Value → Prop} {w w' : World} {B size : Nat} {A : Option Addr} {ys : List α} (h : RowR E w B size A ys) (hb : Below B w w') (hE : ∀ y cs, E w y cs → E w' y cs) : RowR E w' B size A ys := by
  intro i y hy
  obtain ⟨b, off, cs, e, hlt, he, hl, hc⟩ := h i y hy
  exact ⟨b, off, cs, e, hlt, hE y cs he, hl, fun j v hv => (hb.cell (p := ⟨b, off + i * size + j, none⟩) hlt).trans (hc j v hv)⟩
theorem cell_spot {w : World} {a : Addr} {v : Value} (h : w.cell? a = some v) : a.spot = none := by
  unfold World.cell? at h
  split at h
  · cases hs : a.spot with
    | none => rfl
    | some x => simp [hs] at h
  · cases h
theorem list_of_fn {α : Type} {n : Nat} {p : Nat → α → Prop} : (∀ i, i < n → ∃ y, p i y) → ∃ ys : List α, ys.length = n ∧ ∀ i y, ys[i]? = some y → p i y := by
  induction n with
  | zero => intro _; exact ⟨[], rfl, by simp⟩
  | succ n ih =>
    intro h
    obtain ⟨ys, hl, hp⟩ := ih (fun i hi => h i (by omega))
    obtain ⟨y, hy⟩ := h n (by omega)
    refine ⟨ys ++ [y], by simp [hl], fun i z hz => ?_⟩
    by_cases hi : i < n
    · rw [List.getElem?_append_left (by omega)] at hz
      exact hp i z hz
    · rw [List.getElem?_append_right (by omega), hl] at hz
      have : i - n = 0 := by
        cases hk : i - n with
        | zero => rfl
        | succ m => rw [hk] at hz; simp at hz
      rw [this] at hz
      simp at hz
      subst hz
      have : i = n := by omega
      subst this
      exact hy
section
variable {H : Type} {enc : TypeId × Value → H} {P : Program} {w : World} {base : Nat} {spare : Nat → Bool} {held : Bool}
theorem open_row {α : Type} (E : World → α → List Value → Prop) {t e : TypeId} {size fuel : Nat} {A : Option Addr} {len cap : Nat} {x : DataW H × List MemPlace} (ht : P.underlying t = some (.slice e)) (hc : P.cellsOf e = size) (hs : 0 < size)
    (hel : ∀ n cs z, DataW.trod enc P w base spare held n e cs = some z → ∃ y, E w y cs)
    (h : DataW.trod enc P w base spare held fuel t [.slice A len cap] = some x) :
    ∃ ys : List α, ys.length = len ∧ RowR E w w.heap.size size A ys ∧ len ≤ cap := by
  rcases open_slice ht h with ⟨h0, _⟩ | ⟨a, len', cap', m, n, D, Pl, hcs, hb, hl, hm, hmm, _, hx⟩
  · simp only [List.cons.injEq, Value.slice.injEq, and_true] at h0
    obtain ⟨rfl, rfl, rfl⟩ := h0
    exact ⟨[], rfl, fun i y hy => by simp at hy, Nat.le_refl _⟩
  · simp only [List.cons.injEq, Value.slice.injEq, and_true] at hcs
    obtain ⟨rfl, rfl, rfl⟩ := hcs
    have hlm : len ≤ m := by rw [hmm]; split <;> omega
    obtain ⟨ys, hyl, hyp⟩ := list_of_fn (α := α) (n := len) (p := fun i y => ∃ cs, E w y cs ∧ cs.length = size ∧ ∀ j, j < size → w.cell? ((a.add (i * size)).add j) = cs[j]?) (by
      intro i hi
      obtain ⟨cs', h1, h2⟩ := hx i (by omega)
      rw [hc] at h1
      obtain ⟨_, hln, hce⟩ := World.cells?_some h1
      obtain ⟨y, hy⟩ := hel _ _ _ h2
      exact ⟨y, cs', hy, hln, hce⟩)
    refine ⟨ys, hyl, fun i y hy => ?_, hl⟩
    obtain ⟨cs, he, hln, hce⟩ := hyp i y hy
    have h0 : w.cell? ((a.add (i * size)).add 0) = some cs[0] := by rw [hce 0 hs, List.getElem?_eq_getElem (by omega)]
    obtain ⟨b, off, sp⟩ := a
    have hadd : ∀ k, (⟨b, off, sp⟩ : Addr).add k = ⟨b, off + k, if k = 0 then sp else none⟩ := by
      intro k
      unfold Addr.add
      by_cases hk : k = 0
      · subst hk; simp
      · simp [hk]
    have hsp : sp = none := by
      by_cases hi0 : i = 0
      · subst hi0
        have := cell_spot h0
        simpa [hadd, Addr.add] using this
      · 
        obtain ⟨cs0, h1, _⟩ := hx 0 (by have := (List.getElem?_eq_some_iff.1 hy).1; omega)
        rw [hc] at h1
        obtain ⟨_, hln0, hce0⟩ := World.cells?_some h1
        have h00 := hce0 0 hs
        rw [List.getElem?_eq_getElem (by omega)] at h00
        have := cell_spot h00
        simpa [hadd, Addr.add] using this
    subst hsp
    have hblk : b < w.heap.size := by
      have := World.block_lt_of_cell? _ _ h0
      simp only [hadd] at this
      exact this
    refine ⟨b, off, cs, rfl, hblk, he, hln, fun j v hv => ?_⟩
    have hj : j < size := by have := (List.getElem?_eq_some_iff.1 hv).1; omega
    rw [← hv, ← hce j hj]
    congr 1
    simp only [hadd]
    unfold Addr.add
    by_cases hj0 : j = 0
    · subst hj0; simp
    · simp [hj0]
theorem sized_row {ts : List TypeId} {ds : List (DataW H)} {j : Nat} {t e : TypeId} {A : Option Addr} {len cap : Nat} {d : DataW H} {ps : List MemPlace} (hsz : (DataW.weightsEach P ts ds).all (· ≤ reachBytes) = true)
    (htj : ts[j]? = some t) (hdj : ds[j]? = some d) (ht : P.underlying t = some (.slice e)) (h : DataW.Trod enc P w base spare held t (.slice A len cap) d ps) {B : Nat} (hB : P.bytesOf e = B) : len * B ≤ 140737488351232 := by
  obtain ⟨fuel, hf⟩ := h
  rcases open_slice ht hf with ⟨h0, _⟩ | ⟨a, len', cap', m, n, D, Pl, hcs, hb, hl, hm, hmm, hx, _⟩
  · simp only [Value.cells, List.cons.injEq, Value.slice.injEq, and_true] at h0
    obtain ⟨_, rfl, _⟩ := h0
    simp
  · simp only [Value.cells, List.cons.injEq, Value.slice.injEq, and_true] at hcs
    obtain ⟨rfl, rfl, rfl⟩ := hcs
    obtain ⟨rfl, _⟩ := Prod.mk.inj hx
    have z := sized_slice hsz htj hdj ht
    rw [hB] at z
    refine Nat.le_trans (Nat.mul_le_mul_right _ ?_) z
    simp
end
end Go.Mine
namespace Go.Proofs.YtdejbinmnoabeaaGreat
open Go.RowKit Go.Mine Go.Deep
set_option linter.unusedVariables false
set_option linter.unusedSimpArgs false
section
variable {H : Type} {enc : TypeId × Value → H} {w : World} {base : Nat} {spare : Nat → Bool} {held : Bool}
set_option maxRecDepth 100000 in
theorem ch_open (n : Nat) (cs : List Value) (z : DataW H × List MemPlace) (h : DataW.trod enc Tryz.prog w base spare held n 90 cs = some z) : ∃ y : Ch, cs = Q.encCh y := by
  obtain ⟨xs, m, _, _, hl, hlen, hx⟩ := DataW.trod_struct Tryz.underlying90 h
  have hc : Tryz.prog.cellsOf 90 = 3 := by kernel_rfl
  have c3 : Tryz.prog.cellsOf 3 = 1 := by kernel_rfl
  have c26 : Tryz.prog.cellsOf 39 = 1 := by kernel_rfl
  rw [hc] at hl
  obtain ⟨v0, v1, v2, rfl⟩ : ∃ a b c, cs = [a, b, c] := by
    match cs, hl with
    | [a, b, c], _ => exact ⟨a, b, c, rfl⟩
  obtain ⟨y0, y1, y2, rfl⟩ : ∃ a b c, xs = [a, b, c] := by
    match xs, hlen with
    | [a, b, c], _ => exact ⟨a, b, c, rfl⟩
  have h0 : DataW.trod enc Tryz.prog w base spare held m 3 (([v0, v1, v2].drop 0).take (Tryz.prog.cellsOf 3)) = some y0 := hx 0 _ rfl
  have h1 : DataW.trod enc Tryz.prog w base spare held m 3 (([v0, v1, v2].drop 1).take (Tryz.prog.cellsOf 3)) = some y1 := hx 1 _ rfl
  have h2 : DataW.trod enc Tryz.prog w base spare held m 39 (([v0, v1, v2].drop 2).take (Tryz.prog.cellsOf 39)) = some y2 := hx 2 _ rfl
  simp only [c3, c26, List.drop_zero, List.take_succ_cons, List.take_zero, List.drop_succ_cons] at h0 h1 h2
  obtain ⟨x0, e0, _, _⟩ := DataW.trod_int Tryz.underlying3 h0
  obtain ⟨x1, e1, _, _⟩ := DataW.trod_int Tryz.underlying3 h1
  obtain ⟨x2, e2, _, _⟩ := DataW.trod_int Tryz.underlying39 h2
  simp only [List.cons.injEq, and_true] at e0 e1 e2
  subst e0 e1 e2
  exact ⟨⟨x0, x1, x2⟩, rfl⟩
theorem chAt_of {B : Nat} {A : Option Addr} {l : List Ch} (h : RowR (fun _ y cs => cs = Q.encCh y) w B 3 A l) : ChAt w B A l := by
  intro i x hx
  obtain ⟨b, off, cs, e, hlt, rfl, _, hc⟩ := h i x hx
  exact ⟨b, off, e, hlt, hc⟩
set_option maxRecDepth 100000 in
theorem op_open (n : Nat) (cs : List Value) (z : DataW H × List MemPlace) (h : DataW.trod enc Tryz.prog w base spare held n 42 cs = some z) : ∃ y : ROp, cs = encOp y ∧ ChAt w w.heap.size y.la y.l ∧ y.l.length ≤ y.lc := by
  obtain ⟨xs, m, _, _, hl, hlen, hx⟩ := DataW.trod_struct Tryz.underlying42 h
  have hc : Tryz.prog.cellsOf 42 = 5 := by kernel_rfl
  have c3 : Tryz.prog.cellsOf 3 = 1 := by kernel_rfl
  have c26 : Tryz.prog.cellsOf 39 = 1 := by kernel_rfl
  have c32 : Tryz.prog.cellsOf 40 = 1 := by kernel_rfl
  rw [hc] at hl
  obtain ⟨v0, v1, v2, v3, v4, rfl⟩ : ∃ a b c d e, cs = [a, b, c, d, e] := by
    match cs, hl with
    | [a, b, c, d, e], _ => exact ⟨a, b, c, d, e, rfl⟩
  obtain ⟨y0, y1, y2, y3, y4, rfl⟩ : ∃ a b c d e, xs = [a, b, c, d, e] := by
    match xs, hlen with
    | [a, b, c, d, e], _ => exact ⟨a, b, c, d, e, rfl⟩
  have h0 : DataW.trod enc Tryz.prog w base spare held m 3 (([v0, v1, v2, v3, v4].drop 0).take (Tryz.prog.cellsOf 3)) = some y0 := hx 0 _ rfl
  have h1 : DataW.trod enc Tryz.prog w base spare held m 3 (([v0, v1, v2, v3, v4].drop 1).take (Tryz.prog.cellsOf 3)) = some y1 := hx 1 _ rfl
  have h2 : DataW.trod enc Tryz.prog w base spare held m 3 (([v0, v1, v2, v3, v4].drop 2).take (Tryz.prog.cellsOf 3)) = some y2 := hx 2 _ rfl
  have h3 : DataW.trod enc Tryz.prog w base spare held m 39 (([v0, v1, v2, v3, v4].drop 3).take (Tryz.prog.cellsOf 39)) = some y3 := hx 3 _ rfl
  have h4 : DataW.trod enc Tryz.prog w base spare held m 40 (([v0, v1, v2, v3, v4].drop 4).take (Tryz.prog.cellsOf 40)) = some y4 := hx 4 _ rfl
  simp only [c3, c26, c32, List.drop_zero, List.take_succ_cons, List.take_zero, List.drop_succ_cons] at h0 h1 h2 h3 h4
  obtain ⟨x0, e0, _, _⟩ := DataW.trod_int Tryz.underlying3 h0
  obtain ⟨x1, e1, _, _⟩ := DataW.trod_int Tryz.underlying3 h1
  obtain ⟨x2, e2, _, _⟩ := DataW.trod_int Tryz.underlying3 h2
  obtain ⟨x3, e3, _, _⟩ := DataW.trod_int Tryz.underlying39 h3
  simp only [List.cons.injEq, and_true] at e0 e1 e2 e3
  subst e0 e1 e2 e3
  obtain ⟨A, len, cap, rfl⟩ : ∃ A len cap, v4 = .slice A len cap := by
    rcases open_slice Tryz.underlying40 h4 with ⟨q, _⟩ | ⟨a, len', cap', m', n', D, Pl, hcs, _⟩
    · simp only [List.cons.injEq, and_true] at q
      exact ⟨_, _, _, q⟩
    · simp only [List.cons.injEq, and_true] at hcs
      exact ⟨_, _, _, hcs⟩
  obtain ⟨ys, hyl, hrow, hcap⟩ := open_row (size := 3) (fun _ (y : Ch) cs => cs = Q.encCh y) Tryz.underlying40 (by kernel_rfl) (by decide) (fun n cs z hz => ch_open n cs z hz) h4
  subst hyl
  exact ⟨⟨x0, x1, x2, x3, A, ys, cap⟩, rfl, chAt_of hrow, hcap⟩
end
theorem opsAt_of {w : World} {A : Option Addr} {l : List ROp} (h : RowR (fun w y cs => cs = encOp y ∧ ChAt w w.heap.size y.la y.l ∧ y.l.length ≤ y.lc) w w.heap.size 5 A l) : OpsAt w w.heap.size A l := by
  intro i x hx
  obtain ⟨b, off, cs, e, hlt, ⟨rfl, h1, h2⟩, _, hc⟩ := h i x hx
  exact ⟨b, off, e, hlt, hc, h1, h2⟩
section
open Go.Deep Go.WideShapes
variable {H : Type} {enc : TypeId × Value → H} {W : World} {base : Nat} {spare : Nat → Bool} {held : Bool}
end
end Go.Proofs.YtdejbinmnoabeaaGreat
