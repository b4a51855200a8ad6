/- Texts of this seat, put together: RdL0, RdL, RzT0, RzT, RdP, RdR. -/
import Derived.Test.YtdejbinmnoabeaaGreatBm23
import Derived.Test.YtdejbinmnoabeaaGreatBm24
import Derived.Test.YtdejbinmnoabeaaGreatBm18
import Derived.Test.YtdejbinmnoabeaaGreatBm17
namespace Go.Mine
set_option linter.unusedVariables false
set_option linter.unusedSimpArgs false
theorem kget_len (s : KS) (n k : Int) : (s.get n k).2.ws.length ≤ s.ws.length + 1 := by rw [get_st]; exact touch_len _ _ _ _
theorem kprep_wlen (s : KS) (n : Int) : (s.prepare n).2.ws.length ≤ s.ws.length + 1 := by
  unfold KS.prepare
  split
  · simp
  · split
    · have := gone_len s n
      show (s.gone n).ws.length ≤ _
      omega
    · rename_i w hg
      split
      · simp
      · split
        · have := gone_len s n
          show (s.gone n).ws.length ≤ _
          omega
        · show (aput n ⟨w.l, true⟩ s.ws).length ≤ _
          rw [aput_len hg]
          omega
theorem kcommit_wlen (s : KS) (n : Int) : (s.commit n).2.ws.length ≤ s.ws.length + 1 := by
  unfold KS.commit
  split
  · simp
  · have := gone_len ((s.listOf n).foldl setV s) n
    rw [setVs_ws] at this
    show (((s.listOf n).foldl setV s).gone n).ws.length ≤ _
    omega
theorem kback_wlen (s : KS) (n : Int) : (s.backout n).2.ws.length ≤ s.ws.length := by
  unfold KS.backout
  split
  · exact Nat.le_refl _
  · exact gone_len s n
theorem kcommit_same (s : KS) (n : Int) (h : n < 1) : (s.commit n).2 = s := by unfold KS.commit; rw [if_pos h]
theorem kback_vt (s : KS) (n : Int) : (s.backout n).2.vs = s.vs ∧ (s.backout n).2.th = s.th := by
  unfold KS.backout
  split <;> exact ⟨rfl, rfl⟩
theorem rest_len {s : RM} (hok : s.Ok) (n : Int) (l : List Ch) : (s.restore n l).2.k.ws.length ≤ s.k.ws.length + 1 := by
  have h1 := Go.Proofs.YtdejbinmnoabeaaGreat.k_restore_len hok.k n (l.take (cutN l))
  unfold RM.restore
  split
  · simp
  · split
    · simp
    · split
      · exact h1
      · split
        · show (KS.ws (if 0 < cutN l then ((s.k.restore n (l.take (cutN l))).2.backout n).2 else (s.k.restore n (l.take (cutN l))).2)).length ≤ s.k.ws.length + 1
          split
          · exact Nat.le_trans (kback_wlen _ n) h1
          · exact h1
        · exact h1
theorem rest_vt (s : RM) (n : Int) (l : List Ch) : (s.restore n l).2.k.vs = s.k.vs ∧ (s.restore n l).2.k.th = s.k.th := by
  have h1 := restore_vt s.k n (l.take (cutN l))
  unfold RM.restore
  split
  · exact ⟨rfl, rfl⟩
  · split
    · exact ⟨rfl, rfl⟩
    · split
      · exact h1
      · split
        · show KS.vs (if 0 < cutN l then ((s.k.restore n (l.take (cutN l))).2.backout n).2 else (s.k.restore n (l.take (cutN l))).2) = _ ∧ KS.th (if 0 < cutN l then ((s.k.restore n (l.take (cutN l))).2.backout n).2 else (s.k.restore n (l.take (cutN l))).2) = _
          split
          · have h2 := kback_vt (s.k.restore n (l.take (cutN l))).2 n
            exact ⟨h2.1.trans h1.1, h2.2.trans h1.2⟩
          · exact h1
        · exact h1
theorem callR_len {s : RM} (hok : s.Ok) (o : ROp) : (callR s o).2.k.ws.length ≤ s.k.ws.length + 1 := by
  unfold callR
  split
  · unfold RM.get
    split
    · simp
    · exact kget_len _ _ _
  · split
    · unfold RM.change
      split
      · simp
      · exact change_len _ _ _
    · split
      · unfold RM.change
        split
        · simp
        · exact change_len _ _ _
      · split
        · unfold RM.push
          split <;> simp
        · split
          · unfold RM.pop
            split <;> simp
          · split
            · unfold RM.prepare
              split
              · simp
              · exact kprep_wlen _ _
            · split
              · unfold RM.commit
                split
                · simp
                · exact kcommit_wlen _ _
              · split
                · unfold RM.backout
                  split
                  · simp
                  · exact Nat.le_succ_of_le (kback_wlen _ _)
                · split
                  · exact rest_len hok _ _
                  · simp
theorem callR_agree {LP : List (Int × Int)} {s : RM} (h : Agree LP s.k) (hok : s.Ok) (o : ROp) : Agree (callLP LP s o) (callR s o).2.k := by
  by_cases h6 : o.kind = 6
  · unfold callLP callR
    rw [if_pos h6, if_neg (by omega), if_neg (by omega), if_neg (by omega), if_neg (by omega), if_neg (by omega), if_neg (by omega), if_pos h6]
    unfold RM.commit
    split
    · rename_i q
      have hn : o.work < 1 := by
        rcases s.fit_cases o.work with ⟨a, _⟩ | ⟨_, e, _⟩ | ⟨_, e, _⟩
        · exact a
        · rw [q] at e; cases e
        · rw [q] at e; cases e
      have := h.commit hok.k o.work
      rw [kcommit_same _ _ hn] at this
      exact this
    · exact h.commit hok.k o.work
  · unfold callLP callR
    rw [if_neg h6]
    split
    · unfold RM.get
      split
      · exact h
      · have e := touch_vt s.k o.work o.key false
        rw [← get_st] at e
        exact h.same e.1 e.2
    · split
      · unfold RM.change
        split
        · exact h
        · have e := change_vt s.k o.work ⟨1, o.key, o.val⟩
          exact h.same e.1 e.2
      · split
        · unfold RM.change
          split
          · exact h
          · have e := change_vt s.k o.work ⟨2, o.key, 0⟩
            exact h.same e.1 e.2
        · split
          · unfold RM.push
            split <;> exact h
          · split
            · unfold RM.pop
              split <;> exact h
            · split
              · unfold RM.prepare
                split
                · exact h
                · have e := prepare_vt s.k o.work
                  exact h.same e.1 e.2
              · split
                · unfold RM.backout
                  split
                  · exact h
                  · have e := kback_vt s.k o.work
                    exact h.same e.1 e.2
                · split
                  · have e := rest_vt s o.work o.l
                    exact h.same e.1 e.2
                  · exact h
theorem callR_list {s : RM} (hok : s.Ok) (o : ROp) : (callR s o).1.l.length ≤ 48 := by
  unfold callR
  split
  · exact Nat.zero_le _
  · split
    · exact Nat.zero_le _
    · split
      · exact Nat.zero_le _
      · split
        · exact Nat.zero_le _
        · split
          · exact Nat.zero_le _
          · split
            · show (s.prepare o.work).1.1.length ≤ 48
              have h1 := Go.Proofs.YtdejbinmnoabeaaGreat.kprep_len hok.k o.work
              have h2 := Go.Proofs.YtdejbinmnoabeaaGreat.qprep_len hok.q o.work
              unfold RM.prepare
              split
              · exact Nat.zero_le _
              · show ((s.k.prepare o.work).1.1 ++ (s.q.prepare o.work).1.1).length ≤ 48
                rw [List.length_append]
                omega
            · split
              · exact Nat.zero_le _
              · split
                · exact Nat.zero_le _
                · split
                  · exact Nat.zero_le _
                  · exact Nat.zero_le _
end Go.Mine
namespace Go.Proofs.YtdejbinmnoabeaaGreat
open Go.RowKit Go.Mine Go.Proofs.YtdejbinmnoabeaaGreatW.PrintWords
set_option linter.unusedVariables false
set_option linter.unusedSimpArgs false
def encOp (o : ROp) : List Value := [.int .i64 o.kind, .int .i64 o.work, .int .i64 o.key, .int .u64 o.val, .slice o.la o.l.length o.lc]
def OpsAt (w : World) (B : Nat) (A : Option Addr) (l : List ROp) : Prop :=
  ∀ i x, l[i]? = some x → ∃ b off, A = some ⟨b, off, none⟩ ∧ b < B ∧ (∀ j v, (encOp x)[j]? = some v → w.cell? ⟨b, off + i * 5 + j, none⟩ = some v) ∧ ChAt w B x.la x.l ∧ x.l.length ≤ x.lc
theorem OpsAt.below {w w' : World} {B : Nat} {A : Option Addr} {l : List ROp} (h : OpsAt w B A l) (hb : Below B w w') : OpsAt w' B A l := by
  intro i x hx
  obtain ⟨b, off, e, hlt, hc, h1, h2⟩ := h i x hx
  exact ⟨b, off, e, hlt, fun j v hv => (hb.cell (p := ⟨b, off + i * 5 + j, none⟩) hlt).trans (hc j v hv), Q.RowAt.below h1 hb, h2⟩
theorem RAt.ok {F : Nat → Prop} {w : World} {b : Nat} {s : RM} (h : RAt F w b s) : s.Ok := ⟨h.kok, h.qok⟩
theorem RowAt.block {α : Type} {f : α → List Value} {sz B : Nat} {w : World} {A : Option Addr} {l : List α} (h : Q.RowAt f sz w B A l) (hl : l ≠ []) {b off : Nat} (e : A = some ⟨b, off, none⟩) : b < B := by
  obtain ⟨x, hx⟩ : ∃ x, l[0]? = some x := ⟨_, List.getElem?_eq_getElem (List.length_pos_iff.2 hl)⟩
  obtain ⟨b', off', e', hlt, _⟩ := h 0 x hx
  rw [e] at e'
  cases e'
  exact hlt
theorem imgR_len (s : RM) (h : s.Ok) : (imgR s).P.length ≤ 16 ∧ (imgR s).L.length ≤ 16 := by
  refine ⟨pairsK_len _ _, ?_⟩
  have := h.q.sz
  show (s.q.its.map (·.val)).length ≤ 16
  rw [List.length_map]; omega
theorem ImgAt.up2 {w w' : World} {v : Value} {m : Img} (h : ImgAt w w.heap.size v m) (hb : Below w.heap.size w w') : ImgAt w' w'.heap.size v m := (h.below hb).up hb.size
structure BN (N : Nat) (w0 w : World) : Prop where
  b : Below N w0 w
  s : N ≤ w.heap.size
theorem BN.step {N : Nat} {w0 w w' : World} (h : BN N w0 w) (hb : Below w.heap.size w w') : BN N w0 w' := ⟨h.b.trans (hb.mono h.s), Nat.le_trans h.s hb.size⟩
def nilDoc : Array Value := #[.slice none 0 0, .slice none 0 0, .slice none 0 0, .slice none 0 0, .slice none 0 0, .int .i64 0]
theorem DR.new (w : World) : DR (fun i => i = w.heap.size) (w.alloc (.cells nilDoc 38)) w.heap.size [] RM.new := by
  refine ⟨fun i => i = w.heap.size, fun i => i = w.heap.size, [], .slice none 0 0, .slice none 0 0, .slice none 0 0, [], .slice none 0 0, .slice none 0 0, ⟨⟨?_, rfl, (MapKept.heap_alloc w _).1, Kd.R_nil _ _ _ _ _, Kd.R_nil _ _ _ _ _, Kd.R_nil _ _ _ _ _, ?_, ?_, ?_, fun x hx => absurd hx List.not_mem_nil, List.Pairwise.nil⟩, rfl, ⟨?_, rfl, (MapKept.heap_alloc w _).1, Q.FR.nil _ _ _, Q.FR.nil _ _ _, ?_, ?_, fun x hx => absurd hx List.not_mem_nil, List.Pairwise.nil⟩, rfl, fun i h _ => h, fun i h => h, fun i h => h, ?_⟩⟩
  · intro i hi; subst hi; simp
  · intro k hk; simp [Value.ownBlock] at hk
  · intro k hk; simp [Value.ownBlock] at hk
  · intro k hk; simp [Value.ownBlock] at hk
  · intro i hi; subst hi; simp
  · intro k hk; simp [Value.ownBlock] at hk
  · intro k hk; simp [Value.ownBlock] at hk
  · intro i hi; subst hi; simp
structure Tw (w0 w : World) (F G : Nat → Prop) (b0 b1 : Nat) (LP : List (Int × Int)) (s t : RM) : Prop where
  l : RAt F w b0 s
  r : DR G w b1 LP t
  ap : ∀ i, F i → ¬ G i
  fB : ∀ i, F i → w0.heap.size ≤ i
  gB : ∀ i, G i → w0.heap.size ≤ i
  bn : BN w0.heap.size w0 w
section
variable {w0 w w' : World} {F F' G G' : Nat → Prop} {b0 b1 : Nat} {LP LP' : List (Int × Int)} {s s' t t' : RM}
theorem Tw.below (h : Tw w0 w F G b0 b1 LP s t) (hb : Below w.heap.size w w') : Tw w0 w' F G b0 b1 LP s t :=
  ⟨RX.below h.l hb, h.r.below hb, h.ap, h.fB, h.gB, h.bn.step hb⟩
theorem Tw.left (h : Tw w0 w F G b0 b1 LP s t) (hk : RAt F' w' b0 s') (hg : K.Grew F F' w) (hf : Fr F w w') : Tw w0 w' F' G b0 b1 LP s' t := by
  refine ⟨hk, h.r.fr hf (fun i hi q => h.ap i q hi), fun i hi q => ?_, fun i hi => ?_, h.gB, ⟨h.bn.b.trans (hf.below h.bn.s (fun k hk q => by have := h.fB k q; omega)), Nat.le_trans h.bn.s hf.size⟩⟩
  · rcases hg i hi with r | r
    · exact h.ap i r q
    · have := h.r.fb i q; omega
  · rcases hg i hi with r | r
    · exact h.fB i r
    · exact Nat.le_trans h.bn.s r
theorem Tw.right (h : Tw w0 w F G b0 b1 LP s t) (hk : DR G' w' b1 LP' t') (hg : K.Grew G G' w) (hf : Fr G w w') : Tw w0 w' F G' b0 b1 LP' s t' := by
  refine ⟨RX.fr h.l hf (fun i hi q => h.ap i hi q), hk, fun i hi q => ?_, h.fB, fun i hi => ?_, ⟨h.bn.b.trans (hf.below h.bn.s (fun k hk q => by have := h.gB k q; omega)), Nat.le_trans h.bn.s hf.size⟩⟩
  · rcases hg i q with r | r
    · exact h.ap i hi r
    · have := RX.fb h.l i hi; omega
  · rcases hg i hi with r | r
    · exact h.gB i r
    · exact Nat.le_trans h.bn.s r
end
theorem beside_of {G : Nat → Prop} {B : Nat} (hG : ∀ i, G i → B ≤ i) {α : Type} {f : α → List Value} {sz : Nat} {w : World} {A : Option Addr} {l : List α} (hr : Q.RowAt f sz w B A l) (hl : l ≠ []) : Q.Beside G A := fun b off e hF => by
  have := RowAt.block hr hl e
  have := hG b hF
  omega
def LvE (w0 w : World) (b0 b1 : Nat) (LP : List (Int × Int)) (s : RM) (A1 A2 : Option Addr) (l : List Ch) : Prop :=
  ∃ F G, Tw w0 w F G b0 b1 LP s s ∧ ChAt w w.heap.size A1 l ∧ ChAt w w.heap.size A2 l
theorem LvE.below {w0 w w' : World} {b0 b1 : Nat} {LP : List (Int × Int)} {s : RM} {A1 A2 : Option Addr} {l : List Ch} (h : LvE w0 w b0 b1 LP s A1 A2 l) (hb : Below w.heap.size w w') : LvE w0 w' b0 b1 LP s A1 A2 l := by
  obtain ⟨F, G, h1, h2, h3⟩ := h
  exact ⟨F, G, h1.below hb, Q.RowAt.up (Q.RowAt.below h2 hb) hb.size, Q.RowAt.up (Q.RowAt.below h3 hb) hb.size⟩
theorem c5_step {N : Nat} {w0 w w' : World} {b o : Nat} {a0 a1 a2 a3 a4 : Value} (hb : Below w.heap.size w w') (h : w.cell? ⟨b, o, none⟩ = some a0 ∧ w.cell? ⟨b, o + 1, none⟩ = some a1 ∧ w.cell? ⟨b, o + 2, none⟩ = some a2 ∧ w.cell? ⟨b, o + 3, none⟩ = some a3 ∧ w.cell? ⟨b, o + 4, none⟩ = some a4 ∧ BN N w0 w) : w'.cell? ⟨b, o, none⟩ = some a0 ∧ w'.cell? ⟨b, o + 1, none⟩ = some a1 ∧ w'.cell? ⟨b, o + 2, none⟩ = some a2 ∧ w'.cell? ⟨b, o + 3, none⟩ = some a3 ∧ w'.cell? ⟨b, o + 4, none⟩ = some a4 ∧ BN N w0 w' :=
  ⟨(hb.cell (World.block_lt_of_cell? _ _ h.1)).trans h.1, (hb.cell (World.block_lt_of_cell? _ _ h.2.1)).trans h.2.1, (hb.cell (World.block_lt_of_cell? _ _ h.2.2.1)).trans h.2.2.1, (hb.cell (World.block_lt_of_cell? _ _ h.2.2.2.1)).trans h.2.2.2.1, (hb.cell (World.block_lt_of_cell? _ _ h.2.2.2.2.1)).trans h.2.2.2.2.1, h.2.2.2.2.2.step hb⟩
theorem op_cells {w : World} {B : Nat} {A : Option Addr} {l : List ROp} {i : Nat} {x : ROp} {b off : Nat} (h : OpsAt w B A l) (hx : l[i]? = some x) (e : A = some ⟨b, off, none⟩) : w.cell? ⟨b, off + i * 5, none⟩ = some (.int .i64 x.kind) ∧ w.cell? ⟨b, off + i * 5 + 1, none⟩ = some (.int .i64 x.work) ∧ w.cell? ⟨b, off + i * 5 + 2, none⟩ = some (.int .i64 x.key) ∧ w.cell? ⟨b, off + i * 5 + 3, none⟩ = some (.int .u64 x.val) ∧ w.cell? ⟨b, off + i * 5 + 4, none⟩ = some (.slice x.la x.l.length x.lc) := by
  obtain ⟨b', off', e', hb, hc, _⟩ := h i x hx
  rw [e] at e'
  cases e'
  exact ⟨hc 0 _ rfl, hc 1 _ rfl, hc 2 _ rfl, hc 3 _ rfl, hc 4 _ rfl⟩
end Go.Proofs.YtdejbinmnoabeaaGreat
namespace Go.Proofs.YtdejbinmnoabeaaGreat
open Go.RowKit Go.Mine Go.Proofs.YtdejbinmnoabeaaGreatW.PrintWords
set_option linter.unusedVariables false
set_option linter.unusedSimpArgs false
theorem call_two {w0 w : World} {F G : Nat → Prop} {b0 b1 : Nat} {LP : List (Int × Int)} {s : RM} (ht : Tw w0 w F G b0 b1 LP s s) (hok : s.Ok) (hag : Agree LP s.k) (hk : s.k.ws.length ≤ 60) (x : ROp) (hch : ChAt w0 w0.heap.size x.la x.l) (hlc : x.l.length ≤ x.lc) (h40 : x.l.length ≤ 40) :
    ∀ w', Below w.heap.size w w' → Calls Tryz.prog 8 #[.pointer (some ⟨b0, 0, none⟩), .agg #[.int .i64 x.kind, .int .i64 x.work, .int .i64 x.key, .int .u64 x.val, .slice x.la x.l.length x.lc]] w' fun e w'' => ∃ A1 c1, e = .returned (.agg #[.int .u64 (callR s x).1.v, .bool (callR s x).1.t, .slice A1 (callR s x).1.l.length c1, .int .i64 (callR s x).1.e]) ∧ BN w0.heap.size w0 w'' ∧
      Hid (∀ w3, Below w''.heap.size w'' w3 → Calls Tryz.prog 9 #[.pointer (some ⟨b1, 0, none⟩), .agg #[.int .i64 x.kind, .int .i64 x.work, .int .i64 x.key, .int .u64 x.val, .slice x.la x.l.length x.lc]] w3 fun e w4 => ∃ A2 c2, e = .returned (.agg #[.int .u64 (callR s x).1.v, .bool (callR s x).1.t, .slice A2 (callR s x).1.l.length c2, .int .i64 (callR s x).1.e]) ∧ BN w0.heap.size w0 w4 ∧ Hid (LvE w0 w4 b0 b1 (callLP LP s x) (callR s x).2 A1 A2 (callR s x).1.l)) := by
  intro w' hb
  have t1 := ht.below hb
  have hch1 := Q.RowAt.below hch t1.bn.b
  refine (call_any t1.l x (fun _ => ⟨Q.RowAt.up hch1 t1.bn.s, beside_of t1.fB hch1, by omega, hlc⟩)).mono ?_
  rintro e w'' ⟨A1, c1, rfl, ⟨F', hk', hg, ho⟩, hat, hf⟩
  have t2 := t1.left hk' hg hf
  refine ⟨A1, c1, rfl, t2.bn, hid (fun w3 hb3 => ?_)⟩
  have t3 := t2.below hb3
  have hch3 := Q.RowAt.below hch t3.bn.b
  refine (model_any t3.r hag (by omega) hok x (fun _ => ⟨Q.RowAt.up hch3 t3.bn.s, by omega⟩)).mono ?_
  rintro e w4 ⟨A2, c2, rfl, ⟨G', hd', hg', ho'⟩, hat', hf'⟩
  have t4 := t3.right hd' hg' hf'
  refine ⟨A2, c2, rfl, t4.bn, hid ⟨_, _, t4, ?_, hat'⟩⟩
  have h3 := Q.RowAt.up (Q.RowAt.below hat hb3) hb3.size
  exact row_fr h3 hf' (fun k off e q => by have := (ho k off e).1; have := t1.r.fb k q; omega)
end Go.Proofs.YtdejbinmnoabeaaGreat
namespace Go.Mine
set_option linter.unusedVariables false
set_option linter.unusedSimpArgs false
theorem fillP_pre (th : List Bool) (i : Nat) : ∀ d, ∃ r, fillP th (i + d) = fillP th i ++ r
  | 0 => ⟨[], (List.append_nil _).symm⟩
  | d + 1 => by
    obtain ⟨r, hr⟩ := fillP_pre th i d
    rw [← Nat.add_assoc]
    cases ht : th.getD (i + d) false
    · exact ⟨r, by rw [fillP_false ht, hr]⟩
    · exact ⟨r ++ [i + d], by rw [fillP_true ht, hr, List.append_assoc]⟩
theorem fill_get {vs : List Int} {th : List Bool} {i : Nat} (hi : i < 16) (ht : th.getD i false = true) : (fillL vs th 16)[(fillP th i).length]? = some ⟨1, (i : Int), vs.getD i 0⟩ := by
  obtain ⟨r, hr⟩ := fillP_pre th (i + 1) (15 - i)
  rw [show i + 1 + (15 - i) = 16 by omega, fillP_true ht] at hr
  unfold fillL
  rw [hr, List.getElem?_map, List.append_assoc, List.getElem?_append_right (Nat.le_refl _), Nat.sub_self]
  rfl
theorem Filled.next {vs : List Int} {th : List Bool} {t : KS} {c : Ch} : ∀ (d kk : Nat), kk + d = 16 → Filled vs th kk t → (fillL vs th 16)[(fillP th kk).length]? = some c →
    ∃ k, kk ≤ k ∧ k < 16 ∧ th.getD k false = true ∧ c = ⟨1, (k : Int), vs.getD k 0⟩ ∧ Filled vs th k t ∧ (fillP th k).length = (fillP th kk).length
  | 0, kk, hk, h, hc => by
    rw [show kk = 16 by omega, List.getElem?_eq_none (by unfold fillL; rw [List.length_map]; exact Nat.le_refl _)] at hc
    cases hc
  | d + 1, kk, hk, h, hc => by
    cases ht : th.getD kk false
    · have hp := fillP_false ht
      obtain ⟨k, h1, h2, h3, h4, h5, h6⟩ := Filled.next d (kk + 1) (by omega) (h.skip ht) (by rw [hp]; exact hc)
      exact ⟨k, by omega, h2, h3, h4, h5, by rw [h6, hp]⟩
    · have hg := fill_get (vs := vs) (show kk < 16 by omega) ht
      rw [hg] at hc
      exact ⟨kk, Nat.le_refl _, by omega, ht, (Option.some.inj hc).symm, h, rfl⟩
end Go.Mine
namespace Go.Proofs.YtdejbinmnoabeaaGreat
open Go.RowKit Go.Mine Go.Proofs.YtdejbinmnoabeaaGreatW.PrintWords
set_option linter.unusedVariables false
set_option linter.unusedSimpArgs false
variable {F : Nat → Prop} {w : World} {b : Nat} {k : KS} {q : QS} {f0 f1 : Int → Bool}
def XPost (F : Nat → Prop) (w : World) (b : Nat) (r : Int) (k : KS) (q : QS) (f0 f1 : Int → Bool) (e : Ending) (w' : World) : Prop :=
  e = .returned (.int .i64 r) ∧ (∃ F', RX F' w' b k q f0 f1 ∧ K.Grew F F' w) ∧ Fr F w w'
theorem kput_rx (h : RX F w b k q f0 f1) (n key v : Int) :
    Calls Tryz.prog 47 #[.pointer (some ⟨b, 0, none⟩), .int .i64 n, .int .i64 key, .int .u64 v] w (XPost F w b (k.change n ⟨1, key, v⟩).1 (k.change n ⟨1, key, v⟩).2 q f0 f1) := by
  obtain ⟨FK, Pz, hsub, hk, hst⟩ := h.kv
  refine (K.put_any hk n key v).mono ?_
  rintro e w' ⟨FK', rfl, hk', hg, hf⟩
  exact ⟨rfl, ⟨_, hst w' FK' _ hk' hg hf, grew_or hsub hg⟩, hf.mono hsub⟩
theorem kcommit_rx (h : RX F w b k q f0 f1) (n : Int) :
    Calls Tryz.prog 48 #[.pointer (some ⟨b, 0, none⟩), .int .i64 n] w (XPost F w b (k.commit n).1 (k.commit n).2 q f0 f1) := by
  obtain ⟨FK, Pz, hsub, hk, hst⟩ := h.kv
  refine (K.commit_any hk n).mono ?_
  rintro e w' ⟨rfl, ⟨FK', hk', hg⟩, hf⟩
  exact ⟨rfl, ⟨_, hst w' FK' _ hk' hg hf, grew_or hsub hg⟩, hf.mono hsub⟩
theorem qload_rx (h : RX F w b k q f0 f1) (A : Option Addr) (vals : List Int) (c : Nat) (next : Int) (hv : UAt w w.heap.size A vals) (hA : vals ≠ [] → ∀ b' off, A = some ⟨b', off, none⟩ → ¬ F b') (hlen : vals.length ≤ 100000000000000000) (hc : vals.length ≤ c) :
    Calls Tryz.prog 49 #[.pointer (some ⟨b, 34, none⟩), .slice A vals.length c, .int .i64 next] w (XPost F w b (q.load vals next).1 k (q.load vals next).2 f0 f1) := by
  have hqok := h.qok
  obtain ⟨FQ, Z, hsub, hq, hst⟩ := h.qu
  refine (Q.load_any hq hqok.bd A vals c next hv (fun hn b' off e hF => hA hn b' off e (hsub _ hF)) hlen hc).mono ?_
  rintro e w' ⟨rfl, ⟨FQ', hq', hg⟩, hf⟩
  exact ⟨rfl, ⟨_, hst w' FQ' _ hq' (hqok.load vals next) hg hf, grew_or hsub hg⟩, hf.mono hsub⟩
end Go.Proofs.YtdejbinmnoabeaaGreat
namespace Go.Mine
set_option linter.unusedVariables false
set_option linter.unusedSimpArgs false
def pCh (p : Int × Int) : Ch := ⟨1, p.1, p.2⟩
def stOf (P : List (Int × Int)) : KS := (P.map pCh).foldl setV KS.new
theorem stOf_snoc (P : List (Int × Int)) (p : Int × Int) : stOf (P ++ [p]) = setV (stOf P) (pCh p) := by
  unfold stOf
  rw [List.map_append, List.foldl_append]
  rfl
theorem stOf_keep (P : List (Int × Int)) : (stOf P).ws = [] ∧ (stOf P).lk = [] := setVs_keep _ _
def ascB : Int → List (Int × Int) → Bool
  | _, [] => true
  | la, p :: ps => !(decide (p.1 ≤ la) || decide (16 ≤ p.1)) && ascB p.1 ps
theorem fillL_congr {vs vs' : List Int} {th th' : List Bool} {i : Nat} (h : ∀ j, j < i → vs.getD j 0 = vs'.getD j 0 ∧ th.getD j false = th'.getD j false) : fillL vs th i = fillL vs' th' i := by
  have hp : fillP th i = fillP th' i := by
    unfold fillP
    exact List.filter_congr (fun j hj => (h j (List.mem_range.1 hj)).2)
  unfold fillL
  rw [hp]
  refine List.map_congr_left (fun j hj => ?_)
  have hj2 : j < i := by
    unfold fillP at hj
    exact List.mem_range.1 (List.mem_filter.1 hj).1
  rw [(h j hj2).1]
theorem Filled.skips {vs : List Int} {th : List Bool} {t : KS} {kk : Nat} : ∀ d : Nat, Filled vs th kk t → (∀ j, kk ≤ j → j < kk + d → th.getD j false = false) → Filled vs th (kk + d) t
  | 0, h, _ => h
  | d + 1, h, hz => (Filled.skips d h (fun j h1 h2 => hz j h1 (by omega))).skip (hz (kk + d) (by omega) (by omega))
theorem Filled.add {s t : KS} (hl : s.vs.length = 16) (hh : s.th.length = 16) {kk k : Nat} {v : Int} (h : Filled s.vs s.th kk t) (hk : kk ≤ k) (h16 : k < 16) (hz : ∀ j, kk ≤ j → s.th.getD j false = false) :
    (t.change 1 ⟨1, (k : Int), v⟩).1 = 0 ∧ Filled (s.vs.set k v) (s.th.set k true) (k + 1) (t.change 1 ⟨1, (k : Int), v⟩).2 := by
  have hv : (s.vs.set k v).getD k 0 = v := by
    rw [List.getD_eq_getElem?_getD, List.getElem?_set_self (by omega)]; rfl
  have ht : (s.th.set k true).getD k false = true := by
    rw [List.getD_eq_getElem?_getD, List.getElem?_set_self (by omega)]; rfl
  have ho : ∀ j, j ≠ k → (s.vs.set k v).getD j 0 = s.vs.getD j 0 ∧ (s.th.set k true).getD j false = s.th.getD j false := fun j hj => by
    simp only [List.getD_eq_getElem?_getD]
    rw [List.getElem?_set_ne (Ne.symm hj), List.getElem?_set_ne (Ne.symm hj)]
    exact ⟨rfl, rfl⟩
  have h1 : Filled (s.vs.set k v) (s.th.set k true) kk t := ⟨h.ok, h.v, h.h, h.lk, h.ll, h.ws, by
    rw [h.l]
    exact fillL_congr (fun j hj => ⟨(ho j (by omega)).1.symm, (ho j (by omega)).2.symm⟩)⟩
  have h2 := Filled.skips (k - kk) h1 (fun j h1 h2 => by rw [(ho j (by omega)).2]; exact hz j h1)
  rw [show kk + (k - kk) = k by omega] at h2
  have h3 := h2.put h16 ht
  rw [hv] at h3
  exact h3
structure LdI (P : List (Int × Int)) (i : Nat) (la : Int) (t : KS) : Prop where
  asc : ascB (-1) P = ascB la (P.drop i)
  lo : -1 ≤ la
  hi : la < 16
  ok : (stOf (P.take i)).Ok
  top : ∀ j : Nat, la < j → (stOf (P.take i)).th.getD j false = false
  fil : Filled (stOf (P.take i)).vs (stOf (P.take i)).th (la + 1).toNat t
  ag : Agree (P.take i) (stOf (P.take i))
  le : ∀ p ∈ P.take i, p.1 ≤ la
theorem LdI.start (P : List (Int × Int)) : LdI P 0 (-1) KS.new :=
  ⟨rfl, by omega, by omega, KS.Ok.new, fun j hj => by
    show (List.replicate 16 false).getD j false = false
    rw [List.getD_eq_getElem?_getD, List.getElem?_replicate]
    split <;> rfl, Filled.start _ _, Agree.new, fun p hp => by simp at hp⟩
theorem asc_drop {P : List (Int × Int)} {i : Nat} {x : Int × Int} (hx : P[i]? = some x) : P.drop i = x :: P.drop (i + 1) := by
  obtain ⟨h1, h2⟩ := List.getElem?_eq_some_iff.1 hx
  rw [List.drop_eq_getElem_cons h1, h2]
theorem LdI.bad {P : List (Int × Int)} {i : Nat} {la : Int} {t : KS} (h : LdI P i la t) {x : Int × Int} (hx : P[i]? = some x) (hb : x.1 ≤ la ∨ 16 ≤ x.1) : ascB (-1) P = false := by
  rw [h.asc, asc_drop hx]
  show (!(decide (x.1 ≤ la) || decide (16 ≤ x.1)) && _) = false
  rcases hb with hb | hb
  · rw [decide_eq_true hb]; rfl
  · rw [decide_eq_true hb, Bool.or_true]; rfl
theorem LdI.next {P : List (Int × Int)} {i : Nat} {la : Int} {t : KS} (h : LdI P i la t) {x : Int × Int} (hx : P[i]? = some x) (h1 : ¬ x.1 ≤ la) (h2 : ¬ 16 ≤ x.1) :
    LdI P (i + 1) x.1 (t.change 1 ⟨1, x.1, x.2⟩).2 := by
  have hlo := h.lo
  have htk : P.take (i + 1) = P.take i ++ [x] := by
    obtain ⟨h3, h4⟩ := List.getElem?_eq_some_iff.1 hx
    rw [List.take_succ_eq_append_getElem h3, h4]
  have hch : chOk (pCh x) = true := (chOk_iff _).2 ⟨.inl rfl, by show 0 ≤ x.1; omega, by show x.1 < 16; omega⟩
  have hk : ((x.1.toNat : Nat) : Int) = x.1 := Int.toNat_of_nonneg (by omega)
  have hs : stOf (P.take (i + 1)) = { stOf (P.take i) with vs := (stOf (P.take i)).vs.set x.1.toNat x.2, th := (stOf (P.take i)).th.set x.1.toNat true } := by
    rw [htk, stOf_snoc]; rfl
  have hf := Filled.add (k := x.1.toNat) (v := x.2) h.ok.lv h.ok.lt h.fil (by omega) (by omega) (fun j hj => h.top j (by omega))
  rw [hk] at hf
  refine ⟨?_, by omega, by omega, ?_, ?_, ?_, ?_, ?_⟩
  · rw [h.asc, asc_drop hx]
    show (!(decide (x.1 ≤ la) || decide (16 ≤ x.1)) && ascB x.1 (P.drop (i + 1))) = _
    rw [decide_eq_false h1, decide_eq_false h2]
    rfl
  · rw [htk, stOf_snoc]; exact h.ok.setV hch
  · intro j hj
    rw [hs]
    show ((stOf (P.take i)).th.set x.1.toNat true).getD j false = false
    rw [List.getD_eq_getElem?_getD, List.getElem?_set_ne (by omega), ← List.getD_eq_getElem?_getD]
    exact h.top j (by omega)
  · rw [hs, show (x.1 + 1).toNat = x.1.toNat + 1 by omega]
    exact hf.2
  · have ha := h.ag.set h.ok.lv h.ok.lt hch
    have hd : setD (P.take i) (pCh x) = P.take i ++ [x] := by
      unfold setD
      have hfl : (P.take i).filter (fun e => e.1 != (pCh x).key) = P.take i := by
        rw [List.filter_eq_self]
        intro p hp
        have := h.le p hp
        show (p.1 != x.1) = true
        simp
        omega
      rw [hfl]
      rfl
    rw [hd, ← stOf_snoc, ← htk] at ha
    exact ha
  · intro p hp
    rw [htk] at hp
    rcases List.mem_append.1 hp with hp | hp
    · have := h.le p hp; omega
    · obtain rfl := List.mem_singleton.1 hp; omega
theorem LdI.done {P : List (Int × Int)} {la : Int} {t : KS} (h : LdI P P.length la t) : ascB (-1) P = true ∧ t.commit 1 = (0, stOf P) ∧ (stOf P).Ok ∧ Agree P (stOf P) := by
  have hlo := h.lo
  have hhi := h.hi
  have htk : P.take P.length = P := List.take_of_length_le (Nat.le_refl _)
  have hok := h.ok
  have hfil := h.fil
  have hag := h.ag
  have htop := h.top
  rw [htk] at hok hfil hag htop
  have h16 := Filled.skips (16 - (la + 1).toNat) hfil (fun j hj _ => htop j (by omega))
  rw [show (la + 1).toNat + (16 - (la + 1).toNat) = 16 by omega] at h16
  have hc := h16.commit hok
  have hk := stOf_keep P
  refine ⟨?_, ?_, hok, hag⟩
  · rw [h.asc, List.drop_length]; rfl
  · rw [hc]
    congr 1
    cases hS : stOf P with
    | mk vs th ws lk =>
      rw [hS] at hk
      simp only at hk
      rw [hk.1, hk.2]
def nxOf (L : List Int) (nx : Int) : Int := if nx = 0 ∧ L = [] then 1 else nx
def loadRM (P : List (Int × Int)) (L : List Int) (nx : Int) : Int × RM :=
  if ascB (-1) P = false then (3, RM.new) else ((QS.new.load L (nxOf L nx)).1, ⟨stOf P, (QS.new.load L (nxOf L nx)).2⟩)
theorem load_ok {P : List (Int × Int)} (h : (stOf P).Ok) (L : List Int) (n : Int) : (RM.mk (stOf P) (QS.new.load L n).2).Ok := ⟨h, QS.Ok.load QS.Ok.new L n⟩
theorem load_ws (L : List Int) (n : Int) : (QS.new.load L n).2.ws = [] := by
  unfold QS.load
  split
  · rfl
  · split <;> rfl
end Go.Mine
namespace Go.Proofs.YtdejbinmnoabeaaGreat
open Go.RowKit Go.Mine Go.Proofs.YtdejbinmnoabeaaGreatW.PrintWords
set_option linter.unusedVariables false
set_option linter.unusedSimpArgs false
def Bx (w : World) (bx : Nat) (A1 : Option Addr) (n1 c1 : Nat) (A2 : Option Addr) (n2 c2 : Nat) (nx : Int) : Prop := w.heap[bx]? = some (.cells #[.slice A1 n1 c1, .slice A2 n2 c2, .int .i64 nx] 58 (0, 0))
theorem RowAt.block' {α : Type} {f : α → List Value} {sz B : Nat} {w : World} {A : Option Addr} {l : List α} (h : Q.RowAt f sz w B A l) (hl : l ≠ []) {b off : Nat} (e : A = some ⟨b, off, none⟩) : b < B := by
  obtain ⟨x, hx⟩ : ∃ x, l[0]? = some x := ⟨_, List.getElem?_eq_getElem (List.length_pos_iff.2 hl)⟩
  obtain ⟨b', off', e', hlt, _⟩ := h 0 x hx
  rw [e] at e'
  cases e'
  exact hlt
theorem two_cells {w w' : World} {bp : Nat} {u v : Value} (hb : Below w.heap.size w w') (h : w.cell? ⟨bp, 0, none⟩ = some u ∧ w.cell? ⟨bp, 1, none⟩ = some v) : w'.cell? ⟨bp, 0, none⟩ = some u ∧ w'.cell? ⟨bp, 1, none⟩ = some v := ⟨(hb.cell (World.block_lt_of_cell? _ _ h.1)).trans h.1, (hb.cell (World.block_lt_of_cell? _ _ h.2)).trans h.2⟩
def LoadPost (w : World) (lr : Int × RM) (e : Ending) (w' : World) : Prop :=
  ∃ p, e = .returned (.tuple #[.pointer p, .int .i64 lr.1]) ∧ Below w.heap.size w w' ∧ (lr.1 ≠ 0 → p = none) ∧ (lr.1 = 0 → ∃ b F, p = some ⟨b, 0, none⟩ ∧ RAt F w' b lr.2 ∧ ∀ i, F i → w.heap.size ≤ i)
set_option maxRecDepth 100000 in
set_option maxHeartbeats 4000000 in
theorem load_any {w : World} {v : Value} {P : List (Int × Int)} {L : List Int} {nx : Int} (h : ImgAt w w.heap.size v ⟨P, L, nx⟩) (hP : P.length ≤ 100) (hL : L.length ≤ 100) :
    Calls Tryz.prog 16 #[v] w (LoadPost w (loadRM P L nx)) := by
  obtain ⟨A1, c1, A2, c2, rfl, hp, hu, l1, l2⟩ := h
  have HP := hid hp
  have HU := hid hu
  have HPL := hid hP
  have HLL := hid hL
  have HL2 := hid l2
  have hbx : Bx (w.alloc (.cells #[.slice A1 P.length c1, .slice A2 L.length c2, .int .i64 nx] 58)) w.heap.size A1 P.length c1 A2 L.length c2 nx := (MapKept.heap_alloc w _).1
  have hba : Below w.heap.size w (w.alloc (.cells #[.slice A1 P.length c1, .slice A2 L.length c2, .int .i64 nx] 58)) := (Below.refl _ _).alloc (Nat.le_refl _) _
  have hlt : w.heap.size < (w.alloc (.cells #[.slice A1 P.length c1, .slice A2 L.length c2, .int .i64 nx] 58)).heap.size := by simp
  have HBX := hid hbx
  have HBA := hid hba
  have HLT := hid hlt
  clear hp hu hbx hba hlt l1 l2 hL
  go_enter Tryz.func16, Tryz.ntmps16
  go_wp2_with fail
  generalize (w.alloc (.cells #[.slice A1 P.length c1, .slice A2 L.length c2, .int .i64 nx] 58)) = wi at *
  refine (new_any wi).mono ?_
  rintro e w1 ⟨rfl, rfl⟩
  have hr1 := new_rat wi
  have hf1 : Below wi.heap.size wi (wi.alloc (.cells nilRes 82)) := (Below.refl _ _).alloc (Nat.le_refl _) _
  have hx1 : Bx (wi.alloc (.cells nilRes 82)) w.heap.size A1 P.length c1 A2 L.length c2 nx := (hf1.block _ HLT.out).trans HBX.out
  have hb1 : Below w.heap.size w (wi.alloc (.cells nilRes 82)) := HBA.out.trans (hf1.mono HBA.out.size)
  have k0 := cell_of_row _ _ 0 _ _ _ hx1
  have HX1 := hid hx1
  have HB1 := hid hb1
  have HR1 := hid hr1
  have hwb : w.heap.size < wi.heap.size := HLT.out
  have HWB := hid hwb
  clear hr1 hf1 hx1 hb1 HBX HBA HLT hwb
  generalize (wi.alloc (.cells nilRes 82)) = w1 at *
  go_wp2_with fail
  generalize hbn : wi.heap.size = b at *
  generalize hbw : w.heap.size = B at *
  have hrx : RX (fun i => i = b) w1 b KS.new QS.new (fun _ => false) (fun _ => false) := RX.marks HR1.out (fun n => rfl) (fun n => rfl)
  have hwB : B < b := HWB.out
  have HWB2 := hid hwB
  have HBW := hid hbw
  clear HR1 HWB hbn hbw hwB k0
  go_loopg [5, 14] (P.length + 1) (fun g v5 v14 wr => ∃ (i : Nat) (t : KS) (F : Nat → Prop) (la : Int), v5 = .int .i64 la ∧ v14 = .int .i64 i ∧ i ≤ P.length ∧ g = P.length + 1 - i ∧ LdI P i la t ∧ RX F wr b t QS.new (fun _ => false) (fun _ => false) ∧ (∀ j, F j → b ≤ j) ∧ Bx wr B A1 P.length c1 A2 L.length c2 nx ∧ Below B w wr)
  case atStart => exact ⟨0, KS.new, _, -1, rfl, rfl, Nat.zero_le _, rfl, LdI.start P, hrx, fun j hj => by rw [hj]; exact Nat.le_refl _, HX1.out, HB1.out⟩
  case round =>
    obtain ⟨i, t, F, la, rfl, rfl, hi, hg, hld, hrx, hF, hbx, hbe⟩ := hrel
    have HG := hid hg
    have HLD := hid hld
    have HRX := hid hrx
    have HF := hid hF
    have HBX := hid hbx
    have HBE := hid hbe
    have hpr := HP.out.below hbe
    have HPR := hid hpr
    have hlo := hld.lo
    have hhi := hld.hi
    clear hg hld hrx hF hbe hpr HX1 HB1
    by_cases h1 : i < P.length
    · obtain ⟨x, hx⟩ : ∃ x, P[i]? = some x := ⟨_, List.getElem?_eq_getElem h1⟩
      obtain ⟨pb, po, rfl, hpb, hpc⟩ := HPR.out i _ hx
      obtain ⟨xk, xv⟩ := x
      have p0 : wr.cell? ⟨pb, po + i * 2, none⟩ = some (.int .i64 xk) := hpc 0 _ rfl
      have p1 : wr.cell? ⟨pb, po + i * 2 + 1, none⟩ = some (.int .u64 xv) := hpc 1 _ rfl
      have HX := hid hx
      clear hpc hx
      by_cases q1 : xk ≤ la
      · have d1 : decide (xk ≤ la) = true := decide_eq_true q1
        have HM := hid (show (loadRM P L nx) = (3, RM.new) from by unfold loadRM; rw [if_pos (HLD.out.bad HX.out (.inl q1))])
        have HBE2 := hid (HBE.out.trans (((Below.refl _ _).alloc (Nat.le_refl _) (.cells #[.int .i64 xk, .int .u64 xv] 107) : Below wr.heap.size wr _).mono (by have := Q.blk_lt HBX.out; omega)))
        clear q1 hbx
        go_wp2_with fail
        go_ret2
        rw [HM.out]
        exact ⟨none, rfl, by rw [HBW.out]; exact HBE2.out, fun _ => rfl, fun q => by cases q⟩
      · have d1 : decide (xk ≤ la) = false := decide_eq_false q1
        by_cases q2 : 16 ≤ xk
        · have d2 : decide (16 ≤ xk) = true := decide_eq_true q2
          have HM := hid (show (loadRM P L nx) = (3, RM.new) from by unfold loadRM; rw [if_pos (HLD.out.bad HX.out (.inr q2))])
          have HBE2 := hid (HBE.out.trans (((Below.refl _ _).alloc (Nat.le_refl _) (.cells #[.int .i64 xk, .int .u64 xv] 107) : Below wr.heap.size wr _).mono (by have := Q.blk_lt HBX.out; omega)))
          clear q1 q2 hbx
          go_wp2_with fail
          go_ret2
          rw [HM.out]
          exact ⟨none, rfl, by rw [HBW.out]; exact HBE2.out, fun _ => rfl, fun q => by cases q⟩
        · have d2 : decide (16 ≤ xk) = false := decide_eq_false q2
          have hrxa := HRX.out.below ((Below.refl _ _).alloc (Nat.le_refl _) (.cells #[.int .i64 xk, .int .u64 xv] 107) : Below wr.heap.size wr (wr.alloc (.cells #[.int .i64 xk, .int .u64 xv] 107)))
          have HRXA := hid hrxa
          have HN := hid (HLD.out.next HX.out q1 q2)
          clear hrxa hbx q1 q2
          go_wp2_with fail
          have hz := (MapKept.heap_alloc wr (.cells #[.int .i64 xk, .int .u64 xv] 107)).1
          have z0 := cell_of_row _ _ 0 _ _ _ hz
          have z1 := cell_of_row _ _ 1 _ _ _ hz
          have hwa : Below wr.heap.size wr (wr.alloc (.cells #[.int .i64 xk, .int .u64 xv] 107)) := (Below.refl _ _).alloc (Nat.le_refl _) _
          have hBxa : Bx (wr.alloc (.cells #[.int .i64 xk, .int .u64 xv] 107)) B (some ⟨pb, po, none⟩) P.length c1 A2 L.length c2 nx := (hwa.block _ (Q.blk_lt HBX.out)).trans HBX.out
          have hBea : Below B w (wr.alloc (.cells #[.int .i64 xk, .int .u64 xv] 107)) := HBE.out.trans (hwa.mono (by have := Q.blk_lt HBX.out; omega))
          have hnb : ¬ F wr.heap.size := fun q => by have := HRX.out.fb _ q; omega
          generalize (wr.alloc (.cells #[.int .i64 xk, .int .u64 xv] 107)) = wa at *
          generalize wr.heap.size = bp at *
          have K43 : Hid (∀ w', Below wa.heap.size wa w' → Calls Tryz.prog 47 #[.pointer (some ⟨b, 0, none⟩), .int .i64 1, .int .i64 xk, .int .u64 xv] w' fun e w'' => (∃ r, e = .returned (.int .i64 r)) ∧ (w''.cell? ⟨bp, 0, none⟩ = some (.int .i64 xk) ∧ w''.cell? ⟨bp, 1, none⟩ = some (.int .u64 xv)) ∧ Hid (∃ F', RX F' w'' b (t.change 1 ⟨1, xk, xv⟩).2 QS.new (fun _ => false) (fun _ => false) ∧ (∀ j, F' j → b ≤ j) ∧ Bx w'' B (some ⟨pb, po, none⟩) P.length c1 A2 L.length c2 nx ∧ Below B w w'')) := hid (fun w' hb => by
            refine (kput_rx (HRXA.out.below hb) 1 xk xv).mono ?_
            rintro e w'' ⟨rfl, ⟨F', r', g'⟩, f'⟩
            have hbB : ∀ j, F j → b ≤ j := HF.out
            have hBb := HWB2.out
            have hbz := HRXA.out.fb
            have hszB : B ≤ wa.heap.size := by have := Q.blk_lt hBxa; omega
            have y0 := (hb.cell (World.block_lt_of_cell? _ _ z0)).trans z0
            have y1 := (hb.cell (World.block_lt_of_cell? _ _ z1)).trans z1
            refine ⟨⟨_, rfl⟩, ⟨f'.cell y0 hnb, f'.cell y1 hnb⟩, hid ⟨F', r', fun j hj => (g' j hj).elim (hbB j) (fun q => ?_), f'.at_ ((hb.block _ (Q.blk_lt hBxa)).trans hBxa) (fun q => by have := hbB _ q; omega), ?_⟩⟩
            · have h1 := hb.size
              have h3 : b < wa.heap.size := HRXA.out.fb b HRXA.out.bF
              omega
            · exact (hBea.trans (hb.mono hszB)).trans (f'.below (Nat.le_trans hszB hb.size) (fun j hj q => by have := hbB j q; omega)))
          have hS : wa.cell? ⟨bp, 0, none⟩ = some (.int .i64 xk) ∧ wa.cell? ⟨bp, 1, none⟩ = some (.int .u64 xv) := ⟨z0, z1⟩
          clear hz z0 z1 hwa hBxa hBea hnb HRXA p0 p1 HPR hpb
          go_region_held3 (fun w' => w'.cell? ⟨bp, 0, none⟩ = some (.int .i64 xk) ∧ w'.cell? ⟨bp, 1, none⟩ = some (.int .u64 xv)) (first | exact two_cells (Q.bd1 _) (by assumption) | exact two_cells (Q.bdN _ _) (by assumption) | assumption) (first
            | (go_at_call 47; refine (K43.out _ (by first | exact Q.bd1 _ | exact Q.bdN _ _ | exact Below.refl _ _)).mono ?_; rintro e w5 ⟨⟨rr, rfl⟩, hS5, HX5⟩))
          all_goals
            obtain ⟨F5, r5, hF5, hx5, hb5⟩ := HX5.out
            have HR5 := hid r5
            have HX5' := hid hx5
            have HB5 := hid hb5
            have HF5 := hid hF5
            clear r5 hx5 hb5 hF5 HX5 K43 hS
            have hp100 := HPL.out
            go_wp2_with fail
            go_roundg (P.length + 1 - (i + 1))
            case measure => rw [HG.out]; omega
            case rel => exact ⟨i + 1, _, F5, xk, rfl, by go_num, by omega, rfl, HN.out, HR5.out, HF5.out, HX5'.out, HB5.out⟩
    · have hip : i = P.length := by omega
      have hdn := LdI.done (hip ▸ HLD.out)
      have K49 := kcommit_rx HRX.out 1
      rw [hdn.2.1] at K49
      have HK49 := hid K49
      have HDN := hid hdn
      have hBb : B < b := HWB2.out
      have HB2 := hid hBb
      have HM := hid (show (loadRM P L nx) = ((QS.new.load L (nxOf L nx)).1, ⟨stOf P, (QS.new.load L (nxOf L nx)).2⟩) from by unfold loadRM; rw [if_neg (by rw [hdn.1]; simp)])
      clear hdn K49 hbx hBb hip
      go_wp2_with fail
      refine HK49.out.mono ?_
      rintro e w6 ⟨rfl, ⟨F6, r6, g6⟩, f6⟩
      have hBsz : B ≤ wr.heap.size := by have := Q.blk_lt HBX.out; omega
      have hx6 : Bx w6 B A1 P.length c1 A2 L.length c2 nx := f6.at_ HBX.out (fun q => by have := HF.out _ q; have := HB2.out; omega)
      have hb6 : Below B w w6 := HBE.out.trans (f6.below hBsz (fun j hj q => by have := HF.out j q; have := HB2.out; omega))
      have hbwr : b < wr.heap.size := HRX.out.fb b HRX.out.bF
      have hF6 : ∀ j, F6 j → b ≤ j := fun j hj => (g6 j hj).elim (HF.out j) (fun q => by omega)
      have hu6 := HU.out.below hb6
      have HR6 := hid r6
      have HX6 := hid hx6
      have HB6 := hid hb6
      have HF6 := hid hF6
      have HU6 := hid hu6
      have z0 := cell_of_row _ _ 0 _ _ _ hx6
      have z1 := cell_of_row _ _ 1 _ _ _ hx6
      have z2 := cell_of_row _ _ 2 _ _ _ hx6
      have hB6 : B ≤ w6.heap.size := by have := Q.blk_lt hx6; omega
      obtain ⟨nn, hnn⟩ : ∃ nn, nxOf L nx = nn := ⟨_, rfl⟩
      obtain ⟨e9, he9⟩ : ∃ e9, (QS.new.load L nn).1 = e9 := ⟨_, rfl⟩
      obtain ⟨q9, hq9⟩ : ∃ q9, (QS.new.load L nn).2 = q9 := ⟨_, rfl⟩
      have hw9 : q9.ws = [] := by rw [← hq9]; exact load_ws L nn
      rw [hnn, he9, hq9] at HM
      have K50 : Hid (∀ w', Below w6.heap.size w6 w' → Calls Tryz.prog 49 #[.pointer (some ⟨b, 34, none⟩), .slice A2 L.length c2, .int .i64 nn] w' fun e w'' => e = .returned (.int .i64 e9) ∧ (w''.cell? ⟨B, 0, none⟩ = some (.slice A1 P.length c1) ∧ w''.cell? ⟨B, 1, none⟩ = some (.slice A2 L.length c2)) ∧ Hid ((∃ F', RAt F' w'' b ⟨stOf P, q9⟩ ∧ (∀ j, F' j → B ≤ j)) ∧ Below B w w'')) := hid (fun w' hb => by
        have hll := HLL.out
        have h2 := qload_rx (HR6.out.below hb) A2 L c2 nn (Q.RowAt.up (Q.RowAt.below HU6.out (hb.mono hB6)) (Nat.le_trans hB6 hb.size)) (fun hn b' off e q => by have := RowAt.block' HU6.out hn e; have := HF6.out _ q; have := HB2.out; omega) (by omega) HL2.out
        rw [he9, hq9] at h2
        refine h2.mono ?_
        rintro e w'' ⟨rfl, ⟨F', r', g'⟩, f'⟩
        have h3 : b < w6.heap.size := HR6.out.fb b HR6.out.bF
        have h4 := hb.size
        have y := two_cells hb (And.intro z0 z1)
        have hnB : ¬ F6 B := fun q => by have := HF6.out _ q; have := HB2.out; omega
        refine ⟨rfl, ⟨f'.cell y.1 hnB, f'.cell y.2 hnB⟩, hid ⟨⟨F', RX.marks r' (fun n => by show false = prepd n (stOf P).ws; rw [(stOf_keep P).1]; rfl) (fun n => by show false = prepd n q9.ws; rw [hw9]; rfl), fun j hj => (g' j hj).elim (fun q => by have := HF6.out j q; have := HB2.out; omega) (fun q => by omega)⟩, (HB6.out.trans (hb.mono hB6)).trans (f'.below (Nat.le_trans hB6 hb.size) (fun j hj q => by have := HF6.out j q; have := HB2.out; omega))⟩⟩)
      have hS : w6.cell? ⟨B, 0, none⟩ = some (.slice A1 P.length c1) ∧ w6.cell? ⟨B, 1, none⟩ = some (.slice A2 L.length c2) := ⟨z0, z1⟩
      have HNN := hid hnn
      clear r6 g6 f6 hx6 hb6 hbwr hF6 hu6 hBsz hB6 HK49 he9 hq9 hw9 hnn
      have hll := HLL.out
      by_cases hn0 : nx = 0
      · subst hn0
        by_cases hl0 : L = []
        · have dl : ((L.length : Int) == 0) = true := by rw [hl0]; rfl
          have hn1 : nn = 1 := by rw [← HNN.out]; unfold nxOf; rw [if_pos ⟨rfl, hl0⟩]
          subst hn1
          clear hl0
          by_cases he0 : e9 = 0
          · subst he0
            go_wp2_with fail
            go_region_held3 (fun w' => w'.cell? ⟨B, 0, none⟩ = some (.slice A1 P.length c1) ∧ w'.cell? ⟨B, 1, none⟩ = some (.slice A2 L.length c2)) (first | exact two_cells (Q.bd1 _) (by assumption) | exact two_cells (Q.bdN _ _) (by assumption) | assumption) (first
              | (go_at_call 49; refine (K50.out _ (by first | exact Q.bd1 _ | exact Q.bdN _ _ | exact Below.refl _ _)).mono ?_; rintro e w7 ⟨rfl, hS7, HZ⟩))
            all_goals
              clear K50 hS
              go_wp2_with fail
              go_ret2
              rw [HM.out]
              obtain ⟨⟨F', hr', hF'⟩, hbz⟩ := HZ.out
              exact ⟨_, rfl, by rw [HBW.out]; exact hbz, fun q => absurd rfl q, fun _ => ⟨b, F', rfl, hr', by rw [HBW.out]; exact hF'⟩⟩
          · have de : (e9 == 0) = false := by simpa using he0
            have HE0 := hid he0
            clear he0
            go_wp2_with fail
            go_region_held3 (fun w' => w'.cell? ⟨B, 0, none⟩ = some (.slice A1 P.length c1) ∧ w'.cell? ⟨B, 1, none⟩ = some (.slice A2 L.length c2)) (first | exact two_cells (Q.bd1 _) (by assumption) | exact two_cells (Q.bdN _ _) (by assumption) | assumption) (first
              | (go_at_call 49; refine (K50.out _ (by first | exact Q.bd1 _ | exact Q.bdN _ _ | exact Below.refl _ _)).mono ?_; rintro e w7 ⟨rfl, hS7, HZ⟩))
            all_goals
              clear K50 hS
              go_wp2_with fail
              go_ret2
              rw [HM.out]
              exact ⟨none, rfl, by rw [HBW.out]; exact HZ.out.2, fun _ => rfl, fun q => absurd q HE0.out⟩
        · have dl : ((L.length : Int) == 0) = false := by
            have := List.length_pos_iff.2 hl0
            simp
            exact hl0
          have hn1 : nn = 0 := by rw [← HNN.out]; unfold nxOf; rw [if_neg (fun q => hl0 q.2)]
          subst hn1
          clear hl0
          by_cases he0 : e9 = 0
          · subst he0
            go_wp2_with fail
            go_region_held3 (fun w' => w'.cell? ⟨B, 0, none⟩ = some (.slice A1 P.length c1) ∧ w'.cell? ⟨B, 1, none⟩ = some (.slice A2 L.length c2)) (first | exact two_cells (Q.bd1 _) (by assumption) | exact two_cells (Q.bdN _ _) (by assumption) | assumption) (first
              | (go_at_call 49; refine (K50.out _ (by first | exact Q.bd1 _ | exact Q.bdN _ _ | exact Below.refl _ _)).mono ?_; rintro e w7 ⟨rfl, hS7, HZ⟩))
            all_goals
              clear K50 hS
              go_wp2_with fail
              go_ret2
              rw [HM.out]
              obtain ⟨⟨F', hr', hF'⟩, hbz⟩ := HZ.out
              exact ⟨_, rfl, by rw [HBW.out]; exact hbz, fun q => absurd rfl q, fun _ => ⟨b, F', rfl, hr', by rw [HBW.out]; exact hF'⟩⟩
          · have de : (e9 == 0) = false := by simpa using he0
            have HE0 := hid he0
            clear he0
            go_wp2_with fail
            go_region_held3 (fun w' => w'.cell? ⟨B, 0, none⟩ = some (.slice A1 P.length c1) ∧ w'.cell? ⟨B, 1, none⟩ = some (.slice A2 L.length c2)) (first | exact two_cells (Q.bd1 _) (by assumption) | exact two_cells (Q.bdN _ _) (by assumption) | assumption) (first
              | (go_at_call 49; refine (K50.out _ (by first | exact Q.bd1 _ | exact Q.bdN _ _ | exact Below.refl _ _)).mono ?_; rintro e w7 ⟨rfl, hS7, HZ⟩))
            all_goals
              clear K50 hS
              go_wp2_with fail
              go_ret2
              rw [HM.out]
              exact ⟨none, rfl, by rw [HBW.out]; exact HZ.out.2, fun _ => rfl, fun q => absurd q HE0.out⟩
      · have dx : (nx == 0) = false := by simpa using hn0
        have hn1 : nn = nx := by rw [← HNN.out]; unfold nxOf; rw [if_neg (fun q => hn0 q.1)]
        subst hn1
        clear hn0
        by_cases he0 : e9 = 0
        · subst he0
          go_wp2_with fail
          go_region_held3 (fun w' => w'.cell? ⟨B, 0, none⟩ = some (.slice A1 P.length c1) ∧ w'.cell? ⟨B, 1, none⟩ = some (.slice A2 L.length c2)) (first | exact two_cells (Q.bd1 _) (by assumption) | exact two_cells (Q.bdN _ _) (by assumption) | assumption) (first
            | (go_at_call 49; refine (K50.out _ (by first | exact Q.bd1 _ | exact Q.bdN _ _ | exact Below.refl _ _)).mono ?_; rintro e w7 ⟨rfl, hS7, HZ⟩))
          all_goals
            clear K50 hS
            go_wp2_with fail
            go_ret2
            rw [HM.out]
            obtain ⟨⟨F', hr', hF'⟩, hbz⟩ := HZ.out
            exact ⟨_, rfl, by rw [HBW.out]; exact hbz, fun q => absurd rfl q, fun _ => ⟨b, F', rfl, hr', by rw [HBW.out]; exact hF'⟩⟩
        · have de : (e9 == 0) = false := by simpa using he0
          have HE0 := hid he0
          clear he0
          go_wp2_with fail
          go_region_held3 (fun w' => w'.cell? ⟨B, 0, none⟩ = some (.slice A1 P.length c1) ∧ w'.cell? ⟨B, 1, none⟩ = some (.slice A2 L.length c2)) (first | exact two_cells (Q.bd1 _) (by assumption) | exact two_cells (Q.bdN _ _) (by assumption) | assumption) (first
            | (go_at_call 49; refine (K50.out _ (by first | exact Q.bd1 _ | exact Q.bdN _ _ | exact Below.refl _ _)).mono ?_; rintro e w7 ⟨rfl, hS7, HZ⟩))
          all_goals
            clear K50 hS
            go_wp2_with fail
            go_ret2
            rw [HM.out]
            exact ⟨none, rfl, by rw [HBW.out]; exact HZ.out.2, fun _ => rfl, fun q => absurd q HE0.out⟩
end Go.Proofs.YtdejbinmnoabeaaGreat
