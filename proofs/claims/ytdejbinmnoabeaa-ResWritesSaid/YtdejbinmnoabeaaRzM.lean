/- The resources in memory: a store, a queue and two maps of prepared works in one block; how that moves. No walk. -/
import Derived.Test.YtdejbinmnoabeaaRzA
import Derived.Test.YtdejbinmnoabeaaRzS
import Derived.Test.YtdejbinmnoabeaaKvW4
namespace Go.Proofs.Ytdejbinmnoabeaa
open Go.RowKit Go.Mine Go.Proofs.YtdejbinmnoabeaaW.PrintWords
open Go.ChangeMaps (setBlock)
set_option linter.unusedVariables false
set_option linter.unusedSimpArgs false
def pz (iv qv : Value) (g : Int) (m0 m1 : Option Nat) : List Value := [iv, qv, .int .i64 g, .map m0, .map m1]
def zz (vs : List Int) (th : List Bool) (mo lo m0 m1 : Option Nat) (h1 : vs.length = 16) (h2 : th.length = 16) : Q.QZ := ⟨vs.map (Value.int .u64) ++ (th.map Value.bool ++ [Value.map mo, Value.map lo]), [.map m0, .map m1], by simp [h1, h2]⟩
theorem cells_eq {vs : List Int} {th : List Bool} {mo lo m0 m1 : Option Nat} {iv qv : Value} {g : Int} (h1 : vs.length = 16) (h2 : th.length = 16) : K.storeCells (pz iv qv g m0 m1) vs th mo lo = Q.qCells (zz vs th mo lo m0 m1 h1 h2) iv qv g := by
  simp [K.storeCells, Q.qCells, pz, zz]
theorem sc37 {vs : List Int} {th : List Bool} {mo lo m0 m1 : Option Nat} {iv qv : Value} {g : Int} (h1 : vs.length = 16) (h2 : th.length = 16) : (K.storeCells (pz iv qv g m0 m1) vs th mo lo)[37]? = some (.map m0) := K.sc_r h1 h2 mo lo 5
theorem sc38 {vs : List Int} {th : List Bool} {mo lo m0 m1 : Option Nat} {iv qv : Value} {g : Int} (h1 : vs.length = 16) (h2 : th.length = 16) : (K.storeCells (pz iv qv g m0 m1) vs th mo lo)[38]? = some (.map m1) := K.sc_r h1 h2 mo lo 6
theorem sc_set {Pz : List Value} {vs : List Int} {th : List Bool} {mo lo : Option Nat} (h1 : vs.length = 16) (h2 : th.length = 16) (j : Nat) (u : Value) : (K.storeCells Pz vs th mo lo).setIfInBounds (34 + j) u = K.storeCells (Pz.set j u) vs th mo lo := by
  simp only [K.storeCells, List.setIfInBounds_toArray]
  congr 1
  rw [List.set_append_right _ _ (by simp [h1]; omega), List.set_append_right _ _ (by simp [h1, h2]; omega)]
  congr 2
  simp only [List.length_map, h1, h2]
  rw [show 34 + j - 16 - 16 = j + 2 by omega]
  rfl
theorem set37 {vs : List Int} {th : List Bool} {mo lo m0 m1 : Option Nat} {iv qv : Value} {g : Int} (h1 : vs.length = 16) (h2 : th.length = 16) (m : Option Nat) : (K.storeCells (pz iv qv g m0 m1) vs th mo lo).setIfInBounds 37 (.map m) = K.storeCells (pz iv qv g m m1) vs th mo lo := sc_set h1 h2 3 _
theorem set38 {vs : List Int} {th : List Bool} {mo lo m0 m1 : Option Nat} {iv qv : Value} {g : Int} (h1 : vs.length = 16) (h2 : th.length = 16) (m : Option Nat) : (K.storeCells (pz iv qv g m0 m1) vs th mo lo).setIfInBounds 38 (.map m) = K.storeCells (pz iv qv g m0 m) vs th mo lo := sc_set h1 h2 4 _
/-- The store's part, where the block's other cells have turned. -/
theorem kv_rebase {Pz Pz' : List Value} {F S : Nat → Prop} {w w' : World} {b : Nat} {vs : List Int} {th : List Bool} {lk : LTab} {I : List K.WI} {L : List (Int × Nat × Nat)} {mo lo : Option Nat} (h : K.KvR Pz F w b vs th lk I L mo lo) (hf : Fr S w w') (hS : ∀ i, F i → i ≠ b → ¬ S i)
    (hb : w'.heap[b]? = some (.cells (K.storeCells Pz' vs th mo lo) 91 (0, 0))) : K.KvR Pz' F w' b vs th lk I L mo lo where
  fb i hi := Nat.lt_of_lt_of_le (h.fb i hi) hf.size
  b := h.b
  lv := h.lv
  lth := h.lth
  blk := hb
  map := h.map.fr hf (fun c hc => hS _ (h.mF c hc) (fun e => h.mo_ne.1 (e ▸ hc)))
  kvL := h.kvL
  mF := h.mF
  wk x hx := K.wk_fr hf (h.wk x hx) (hS _ (h.wk x hx).1 (h.wb_ne hx).1) (fun k hk => hS _ ((h.wk x hx).2.2.2 k hk) (h.row_ne hx hk).1) (fun _ q => q)
  apart := h.apart
  lt := by
    obtain ⟨L2, h0, ⟨mo2, h3, h4, h5, h6⟩⟩ := h.lt
    rw [K.sc33 h.lv h.lth] at h4
    cases h4
    exact ⟨L2, h0, ⟨lo, hb, K.sc33 h.lv h.lth _ _, h5.fr hf (fun c hc => hS _ (h.lF c hc) (fun e => h.mo_ne.2 (e ▸ hc))), fun c hc => hc⟩⟩
  lF := h.lF
  ml := h.ml
/-- The queue's part, where the block's other cells have turned. -/
theorem qu_rebase {Z Z' : Q.QZ} {F S : Nat → Prop} {w w' : World} {b : Nat} {L : List It} {I : List Q.WI} {g : Int} {iv qv : Value} (h : Q.QR Z Q.eIt Q.T0 F w b L I g iv qv) (hf : Fr S w w') (hS : ∀ i, F i → i ≠ b → ¬ S i)
    (hb : w'.heap[b]? = some (.cells (Q.qCells Z' iv qv g) 91 (0, 0))) : Q.QR Z' Q.eIt Q.T0 F w' b L I g iv qv where
  fb i hi := Nat.lt_of_lt_of_le (h.fb i hi) hf.size
  bF := h.bF
  blk := hb
  it := h.it.move (fun k hk => hf.block k (h.it.lt hk) (hS _ (h.iF k hk) (fun e => h.iv_ne.1 (e ▸ hk))))
  wp := h.wp.move (fun k hk => hf.block k (h.wp.lt hk) (hS _ (h.qF k hk) (fun e => h.iv_ne.2.1 (e ▸ hk))))
  iF := h.iF
  qF := h.qF
  wk x hx := ⟨(h.wk x hx).1, hf.at_ (h.wk x hx).2.1 (hS _ (h.wk x hx).1 (h.wb_ne hx).1), (h.wk x hx).2.2.1.move (fun k hk => hf.block k ((h.wk x hx).2.2.1.lt hk) (hS _ ((h.wk x hx).2.2.2 k hk) (h.row_ne hx hk).1)), (h.wk x hx).2.2.2⟩
  apart := h.apart
structure RR (F FK FQ : Nat → Prop) (w : World) (b : Nat) (k : KS) (q : QS) (I : List K.WI) (L : List (Int × Nat × Nat)) (mo lo : Option Nat) (J : List Q.WI) (iv qv : Value) (m0 m1 : Option Nat) (L0 L1 : List (Int × Bool × Nat)) : Prop where
  kok : k.Ok
  qok : q.Ok
  kr : K.KvR (pz iv qv q.gv m0 m1) FK w b k.vs k.th k.lk I L mo lo
  kw : k.ws = K.wsOf I
  qr : Q.QR (zz k.vs k.th mo lo m0 m1 kr.lv kr.lth) Q.eIt Q.T0 FQ w b q.its J q.gv iv qv
  qw : q.ws = Q.wsOf J
  a0 : MapO (Value.int .i64) Value.bool w m0 L0
  a1 : MapO (Value.int .i64) Value.bool w m1 L1
  disj : ∀ i, FK i → FQ i → i = b
  z0 : ∀ c, m0 = some c → F c ∧ ¬ FK c ∧ ¬ FQ c
  z1 : ∀ c, m1 = some c → F c ∧ ¬ FK c ∧ ¬ FQ c
  z01 : ∀ c, m0 = some c → m1 ≠ some c
  fk : ∀ i, FK i → F i
  fq : ∀ i, FQ i → F i
  fb : ∀ i, F i → i < w.heap.size
/-- The resources at block b: a store, a queue, and which works are marked as prepared in each. -/
def RX (F : Nat → Prop) (w : World) (b : Nat) (k : KS) (q : QS) (f0 f1 : Int → Bool) : Prop :=
  ∃ FK FQ I L mo lo J iv qv m0 m1 L0 L1, RR F FK FQ w b k q I L mo lo J iv qv m0 m1 L0 L1 ∧ (∀ n, (mget n L0).getD false = f0 n) ∧ (∀ n, (mget n L1).getD false = f1 n)
section
variable {F : Nat → Prop} {w : World} {b : Nat} {k : KS} {q : QS} {f0 f1 : Int → Bool}
theorem RX.fb (h : RX F w b k q f0 f1) : ∀ i, F i → i < w.heap.size := by
  obtain ⟨FK, FQ, I, L, mo, lo, J, iv, qv, m0, m1, L0, L1, h, _⟩ := h
  exact h.fb
theorem RX.bF (h : RX F w b k q f0 f1) : F b := by
  obtain ⟨FK, FQ, I, L, mo, lo, J, iv, qv, m0, m1, L0, L1, h, _⟩ := h
  exact h.fk _ h.kr.b
theorem RX.kok (h : RX F w b k q f0 f1) : k.Ok := by
  obtain ⟨FK, FQ, I, L, mo, lo, J, iv, qv, m0, m1, L0, L1, h, _⟩ := h
  exact h.kok
theorem RX.qok (h : RX F w b k q f0 f1) : q.Ok := by
  obtain ⟨FK, FQ, I, L, mo, lo, J, iv, qv, m0, m1, L0, L1, h, _⟩ := h
  exact h.qok
theorem RX.fr {S : Nat → Prop} {w' : World} (h : RX F w b k q f0 f1) (hf : Fr S w w') (hS : ∀ i, F i → ¬ S i) : RX F w' b k q f0 f1 := by
  obtain ⟨FK, FQ, I, L, mo, lo, J, iv, qv, m0, m1, L0, L1, h, h0, h1⟩ := h
  exact ⟨FK, FQ, I, L, mo, lo, J, iv, qv, m0, m1, L0, L1, ⟨h.kok, h.qok, h.kr.fr hf (fun i hi => hS i (h.fk i hi)), h.kw, h.qr.fr hf (fun i hi => hS i (h.fq i hi)), h.qw, h.a0.fr hf (fun c hc => hS c (h.z0 c hc).1), h.a1.fr hf (fun c hc => hS c (h.z1 c hc).1), h.disj, h.z0, h.z1, h.z01, h.fk, h.fq, fun i hi => Nat.lt_of_lt_of_le (h.fb i hi) hf.size⟩, h0, h1⟩
theorem RX.below {w' : World} (h : RX F w b k q f0 f1) (hb : Below w.heap.size w w') : RX F w' b k q f0 f1 := h.fr (Fr.of_below hb (Nat.le_refl _)) (fun _ _ q => q)
/-- The store's part, and what its turn makes of the whole. -/
theorem RX.kv (h : RX F w b k q f0 f1) : ∃ FK Pz, (∀ i, FK i → F i) ∧ K.KvAt Pz FK w b k ∧ ∀ w' FK' k', K.KvAt Pz FK' w' b k' → K.Grew FK FK' w → Fr FK w w' → RX (fun i => F i ∨ FK' i) w' b k' q f0 f1 := by
  obtain ⟨FK, FQ, I, L, mo, lo, J, iv, qv, m0, m1, L0, L1, h, h0, h1⟩ := h
  refine ⟨FK, _, h.fk, ⟨h.kok, I, L, mo, lo, h.kr, h.kw⟩, ?_⟩
  rintro w' FK' k' ⟨hok', I', L', mo', lo', hr', hw'⟩ hg hf
  have hQ : ∀ i, FQ i → i ≠ b → ¬ FK i := fun i hi hne hk => hne (h.disj i hk hi)
  have hblk := hr'.blk
  rw [cells_eq hr'.lv hr'.lth] at hblk
  refine ⟨FK', FQ, I', L', mo', lo', J, iv, qv, m0, m1, L0, L1, ⟨hok', h.qok, hr', hw', qu_rebase h.qr hf hQ hblk, h.qw, h.a0.fr hf (fun c hc => (h.z0 c hc).2.1), h.a1.fr hf (fun c hc => (h.z1 c hc).2.1), fun i hi hq => ?_, fun c hc => ⟨.inl (h.z0 c hc).1, fun q => ?_, (h.z0 c hc).2.2⟩, fun c hc => ⟨.inl (h.z1 c hc).1, fun q => ?_, (h.z1 c hc).2.2⟩, h.z01, fun i hi => .inr hi, fun i hi => .inl (h.fq i hi), fun i hi => ?_⟩, h0, h1⟩
  · rcases hg i hi with r | r
    · exact h.disj i r hq
    · have := h.fb i (h.fq i hq); omega
  · rcases hg c q with r | r
    · exact (h.z0 c hc).2.1 r
    · have := h.fb c (h.z0 c hc).1; omega
  · rcases hg c q with r | r
    · exact (h.z1 c hc).2.1 r
    · have := h.fb c (h.z1 c hc).1; omega
  · rcases hi with r | r
    · exact Nat.lt_of_lt_of_le (h.fb i r) hf.size
    · exact hr'.fb i r
/-- The queue's part, and what its turn makes of the whole. -/
theorem RX.qu (h : RX F w b k q f0 f1) : ∃ FQ Z, (∀ i, FQ i → F i) ∧ Q.QAt Z FQ w b q ∧ ∀ w' FQ' q', Q.QAt Z FQ' w' b q' → q'.Ok → Q.Grew FQ FQ' w → Fr FQ w w' → RX (fun i => F i ∨ FQ' i) w' b k q' f0 f1 := by
  obtain ⟨FK, FQ, I, L, mo, lo, J, iv, qv, m0, m1, L0, L1, h, h0, h1⟩ := h
  refine ⟨FQ, _, h.fq, ⟨J, iv, qv, h.qr, h.qw⟩, ?_⟩
  rintro w' FQ' q' ⟨J', iv', qv', hr', hw'⟩ hok' hg hf
  have hQ : ∀ i, FK i → i ≠ b → ¬ FQ i := fun i hi hne hk => hne (h.disj i hi hk)
  have hblk := hr'.blk
  rw [← cells_eq h.kr.lv h.kr.lth] at hblk
  have hkr := kv_rebase h.kr hf hQ hblk
  refine ⟨FK, FQ', I, L, mo, lo, J', iv', qv', m0, m1, L0, L1, ⟨h.kok, hok', hkr, h.kw, hr', hw', h.a0.fr hf (fun c hc => (h.z0 c hc).2.2), h.a1.fr hf (fun c hc => (h.z1 c hc).2.2), fun i hi hq => ?_, fun c hc => ⟨.inl (h.z0 c hc).1, (h.z0 c hc).2.1, fun q => ?_⟩, fun c hc => ⟨.inl (h.z1 c hc).1, (h.z1 c hc).2.1, fun q => ?_⟩, h.z01, fun i hi => .inl (h.fk i hi), fun i hi => .inr hi, fun i hi => ?_⟩, h0, h1⟩
  · rcases hg i hq with r | r
    · exact h.disj i hi r
    · have := h.fb i (h.fk i hi); omega
  · rcases hg c q with r | r
    · exact (h.z0 c hc).2.2 r
    · have := h.fb c (h.z0 c hc).1; omega
  · rcases hg c q with r | r
    · exact (h.z1 c hc).2.2 r
    · have := h.fb c (h.z1 c hc).1; omega
  · rcases hi with r | r
    · exact Nat.lt_of_lt_of_le (h.fb i r) hf.size
    · exact hr'.fb i r
/-- A map's turn, and what it makes of the whole: mark 0. -/
theorem RR.map0 {FK FQ : Nat → Prop} {I : List K.WI} {L : List (Int × Nat × Nat)} {mo lo : Option Nat} {J : List Q.WI} {iv qv : Value} {m0 m1 m0' : Option Nat} {L0 L1 L0' : List (Int × Bool × Nat)} {w' : World}
    (h : RR F FK FQ w b k q I L mo lo J iv qv m0 m1 L0 L1) (hf : Fr (fun i => i = b ∨ m0 = some i) w w') (hb : w'.heap[b]? = some (.cells (K.storeCells (pz iv qv q.gv m0' m1) k.vs k.th mo lo) 91 (0, 0)))
    (hm : MapO (Value.int .i64) Value.bool w' m0' L0') (hn : m0' = m0 ∨ ∀ c, m0' = some c → w.heap.size ≤ c ∧ c < w'.heap.size) :
    RR (fun i => F i ∨ m0' = some i) FK FQ w' b k q I L mo lo J iv qv m0' m1 L0' L1 := by
  have hKS : ∀ i, FK i → i ≠ b → ¬ (i = b ∨ m0 = some i) := fun i hi hne hq => hq.elim hne (fun r => (h.z0 i r).2.1 hi)
  have hQS : ∀ i, FQ i → i ≠ b → ¬ (i = b ∨ m0 = some i) := fun i hi hne hq => hq.elim hne (fun r => (h.z0 i r).2.2 hi)
  have hkr := kv_rebase h.kr hf hKS hb
  have hb2 := hb
  rw [cells_eq h.kr.lv h.kr.lth] at hb2
  have hFb := h.fk _ h.kr.b
  refine ⟨h.kok, h.qok, hkr, h.kw, qu_rebase h.qr hf hQS hb2, h.qw, hm, h.a1.fr hf (fun c hc hq => hq.elim (fun e => (h.z1 c hc).2.1 (e ▸ h.kr.b)) (fun e => h.z01 c e hc)), h.disj, fun c hc => ⟨.inr hc, ?_⟩, fun c hc => ⟨.inl (h.z1 c hc).1, (h.z1 c hc).2⟩, fun c hc => ?_, fun i hi => .inl (h.fk i hi), fun i hi => .inl (h.fq i hi), fun i hi => ?_⟩
  · rcases hn with e | e
    · exact (h.z0 c (e ▸ hc)).2
    · have := (e c hc).1
      exact ⟨fun q => by have := h.fb c (h.fk c q); omega, fun q => by have := h.fb c (h.fq c q); omega⟩
  · rcases hn with e | e
    · exact h.z01 c (e ▸ hc)
    · intro q
      have := (e c hc).1
      have := h.fb c (h.z1 c q).1
      omega
  · rcases hi with r | r
    · exact Nat.lt_of_lt_of_le (h.fb i r) hf.size
    · rcases hn with e | e
      · exact Nat.lt_of_lt_of_le (h.fb i (h.z0 i (e ▸ r)).1) hf.size
      · exact (e i r).2
/-- .. mark 1. -/
theorem RR.map1 {FK FQ : Nat → Prop} {I : List K.WI} {L : List (Int × Nat × Nat)} {mo lo : Option Nat} {J : List Q.WI} {iv qv : Value} {m0 m1 m1' : Option Nat} {L0 L1 L1' : List (Int × Bool × Nat)} {w' : World}
    (h : RR F FK FQ w b k q I L mo lo J iv qv m0 m1 L0 L1) (hf : Fr (fun i => i = b ∨ m1 = some i) w w') (hb : w'.heap[b]? = some (.cells (K.storeCells (pz iv qv q.gv m0 m1') k.vs k.th mo lo) 91 (0, 0)))
    (hm : MapO (Value.int .i64) Value.bool w' m1' L1') (hn : m1' = m1 ∨ ∀ c, m1' = some c → w.heap.size ≤ c ∧ c < w'.heap.size) :
    RR (fun i => F i ∨ m1' = some i) FK FQ w' b k q I L mo lo J iv qv m0 m1' L0 L1' := by
  have hKS : ∀ i, FK i → i ≠ b → ¬ (i = b ∨ m1 = some i) := fun i hi hne hq => hq.elim hne (fun r => (h.z1 i r).2.1 hi)
  have hQS : ∀ i, FQ i → i ≠ b → ¬ (i = b ∨ m1 = some i) := fun i hi hne hq => hq.elim hne (fun r => (h.z1 i r).2.2 hi)
  have hkr := kv_rebase h.kr hf hKS hb
  have hb2 := hb
  rw [cells_eq h.kr.lv h.kr.lth] at hb2
  refine ⟨h.kok, h.qok, hkr, h.kw, qu_rebase h.qr hf hQS hb2, h.qw, h.a0.fr hf (fun c hc hq => hq.elim (fun e => (h.z0 c hc).2.1 (e ▸ h.kr.b)) (fun e => h.z01 c hc e)), hm, h.disj, fun c hc => ⟨.inl (h.z0 c hc).1, (h.z0 c hc).2⟩, fun c hc => ⟨.inr hc, ?_⟩, fun c hc => ?_, fun i hi => .inl (h.fk i hi), fun i hi => .inl (h.fq i hi), fun i hi => ?_⟩
  · rcases hn with e | e
    · exact (h.z1 c (e ▸ hc)).2
    · have := (e c hc).1
      exact ⟨fun q => by have := h.fb c (h.fk c q); omega, fun q => by have := h.fb c (h.fq c q); omega⟩
  · rcases hn with e | e
    · exact fun q => h.z01 c hc (e ▸ q)
    · intro q
      have := (e c q).1
      have := h.fb c (h.z0 c hc).1
      omega
  · rcases hi with r | r
    · exact Nat.lt_of_lt_of_le (h.fb i r) hf.size
    · rcases hn with e | e
      · exact Nat.lt_of_lt_of_le (h.fb i (h.z1 i (e ▸ r)).1) hf.size
      · exact (e i r).2
end
/-- The resources, right: what is marked is what is prepared. -/
def RAt (F : Nat → Prop) (w : World) (b : Nat) (s : RM) : Prop := RX F w b s.k s.q (fun n => prepd n s.k.ws) (fun n => prepd n s.q.ws)
theorem RX.marks {F : Nat → Prop} {w : World} {b : Nat} {k : KS} {q : QS} {f0 f1 g0 g1 : Int → Bool} (h : RX F w b k q f0 f1) (h0 : ∀ n, f0 n = g0 n) (h1 : ∀ n, f1 n = g1 n) : RX F w b k q g0 g1 := by
  obtain ⟨FK, FQ, I, L, mo, lo, J, iv, qv, m0, m1, L0, L1, h, e0, e1⟩ := h
  exact ⟨FK, FQ, I, L, mo, lo, J, iv, qv, m0, m1, L0, L1, h, fun n => (e0 n).trans (h0 n), fun n => (e1 n).trans (h1 n)⟩
end Go.Proofs.Ytdejbinmnoabeaa
