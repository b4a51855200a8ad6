/- LuwBack: the plain law, and the walk that answers true. -/
import Derived.Test.YtlbajagnfmbljaaQParse
import Derived.Test.YtlbajagnfmbljaaQBytes
import Derived.Test.YtlbajagnfmbljaaQAlive
import Derived.Test.YtlbajagnfmbljaaQx11
import Derived.Test.YtlbajagnfmbljaaArgs
import Derived.ProofKit
import Derived.OpenShut
namespace Go.Proofs.Ytlbajagnfmbljaa.Q
open Go.RowKit Go.Proofs.YtlbajagnfmbljaaW.PrintWords Go.Proofs.YtlbajagnfmbljaaW.PrintLast Go.Proofs.YtlbajagnfmbljaaW.PrintMore
set_option linter.unusedVariables false
set_option linter.unusedSimpArgs false

theorem back_j2 (k : Nat) (s : ByteArray) (hs : s.size ≤ 100) : trothlaw05_LuwBack.j2 (k + 1) s false = some true := by
  simp only [trothlaw05_LuwBack.j2]
  rw [if_neg (by simp), alive_eq]
  rcases parse_reads s (by omega) with h | ⟨u, l, q, hf, h⟩
  · rw [h]
    simp
  · rw [h]
    obtain ⟨hr, h1, h2, ht⟩ := hf
    unfold U32 at h1 h2
    simp only [Option.bind_some, if_true]
    rw [print_eq u l q h1 h2, if_pos hr, Option.bind_some, if_pos (by rw [ByteArray.toList_eq, ByteArray.toList_eq, text_list, ht]), right_eq, Option.bind_some, hr]

theorem back_j1 (k : Nat) (l1 : List Int) (s : ByteArray) (hb : ∀ x ∈ l1, Byt x) (hs : s.size ≤ 100) : trothlaw05_LuwBack.j1 (k + 2) l1 s = some true := by
  simp only [trothlaw05_LuwBack.j1]
  rcases read_cases l1 hb with ⟨e, he, h⟩ | ⟨u, l, q, hr, h1, h2, h, hl⟩
  · rw [h, Option.bind_some, write_eq, Option.bind_some, if_neg he, back_j2 k s hs]
  · rw [h, Option.bind_some, write_eq, Option.bind_some, if_pos hr, if_pos rfl, if_pos rfl]
    have : ((strOfNums (nine u l q, (0 : Int)).1).toList != (strOfNums l1).toList) = false := by
      rw [hl]
      simp
    simp only
    simp only at this
    rw [this, back_j2 k s hs]

theorem back_j0 (k : Nat) (l1 : List Int) (s : ByteArray) (b : Bool) (u l q : Int) (hb : ∀ x ∈ l1, Byt x) (hs : b = false → s.size ≤ 100) (h1 : U32 l) (h2 : U32 q) :
    trothlaw05_LuwBack.j0 (k + 3) l1 s b u l q = some true := by
  simp only [trothlaw05_LuwBack.j0]
  cases b with
  | true => rw [if_pos rfl, alive_eq]; rfl
  | false =>
    rw [if_neg (by simp), right_eq, Option.bind_some, back_j1 k l1 s hb (hs rfl)]
    by_cases hr : rightP u q = true
    · rw [if_pos hr, write_eq, Option.bind_some, if_pos hr]
      simp only
      rw [read_nine u l q hr h1 h2, Option.bind_some, print_eq u l q h1 h2, if_pos hr, Option.bind_some, parse_back _ u l q (fits_print u l q hr h1 h2), Option.bind_some]
      simp
    · rw [if_neg hr]

theorem luwBack_plain (l1 : List Int) (s : ByteArray) (u l q : Int) (hb : ∀ x ∈ l1, Byt x) (h1 : U32 l) (h2 : U32 q) : trothlaw05_LuwBack.f 3 u l q l1 s = some true := by
  unfold trothlaw05_LuwBack.f
  by_cases c : (s.size : Int) > 100
  · rw [if_pos c, back_j0 0 l1 s true u l q hb (fun h => by cases h) h1 h2]
  · rw [if_neg c, back_j0 0 l1 s _ u l q hb (fun _ => by omega) h1 h2]

/-- A row of bytes that came in, in the print's words. -/
theorem bytes_of {w : World} {B : Nat} {A : Option Addr} {l : List Int} (h : Go.Mine.RowR (fun _ y cs => cs = [Value.int .u8 y] ∧ (Lit.int .u8 y).wf = true) w B 1 A l) (hz : l.length ≤ 9223372036854775807) :
    Kd.C (Kd.int .u8) w A l.length l ∧ ∀ x ∈ l, Byt x := by
  constructor
  · refine ⟨rfl, hz, fun hp => ?_⟩
    obtain ⟨b, off, cs, e, _⟩ := h 0 _ (List.getElem?_eq_getElem hp)
    refine ⟨⟨b, off, none⟩, e, fun j p hj => ?_⟩
    obtain ⟨b', off', cs', e', _, ⟨hc, _⟩, _, hcell⟩ := h j p hj
    rw [e] at e'
    cases e'
    refine ⟨[.int .u8 p], rfl, rfl, fun i u hu => ?_⟩
    have := hcell i u (by rw [hc]; exact hu)
    have ea : ∀ n, (⟨b, off, none⟩ : Addr).add n = ⟨b, off + n, none⟩ := by
      intro n
      unfold Addr.add
      by_cases h0 : n = 0
      · simp [h0]
      · simp [h0]
    change w.cell? ((⟨b, off, none⟩ : Addr).add (j * 1 + i)) = some u
    rw [ea, ← Nat.add_assoc]
    exact this
  · intro x hx
    obtain ⟨i, hi, rfl⟩ := List.mem_iff_getElem.1 hx
    obtain ⟨b, off, cs, e, _, ⟨_, hw⟩, _⟩ := h i _ (List.getElem?_eq_getElem hi)
    have := bounds_u8 hw
    exact ⟨by omega, by omega⟩

section
variable {H : Type} {enc : TypeId × Value → H} {w : World} {base : Nat} {spare : Nat → Bool} {held : Bool}
theorem u8_open (n : Nat) (cs : List Value) (z : DataW H × List MemPlace) (h : DataW.trod enc Try.prog w base spare held n 5 cs = some z) : ∃ y : Int, cs = [.int .u8 y] ∧ (Lit.int .u8 y).wf = true := by
  obtain ⟨x0, e0, _, hw⟩ := DataW.trod_int Try.underlying5 h
  exact ⟨x0, e0, hw⟩
end

theorem back_walk (u l q : Int) (A : Option Addr) (c : Nat) (l1 : List Int) (s : ByteArray) (w : World) (h1 : (Lit.int .u32 l).wf = true) (h2 : (Lit.int .u32 q).wf = true) (hr : Go.Mine.RowR (fun _ y cs => cs = [Value.int .u8 y] ∧ (Lit.int .u8 y).wf = true) w w.heap.size 1 A l1) (hz : l1.length ≤ 9223372036854775807) (hc : l1.length ≤ c) :
    Calls Try.prog 5 #[.agg #[.int .i64 u, .int .u32 l, .int .u32 q], .slice A l1.length c, .string s] w fun e w' => e = .returned (.bool true) ∧ Below w.heap.size w w' := by
  have b1 := bounds_u32 h1
  have b2 := bounds_u32 h2
  obtain ⟨hC, hB⟩ := bytes_of hr hz
  exact trothlaw05_LuwBack.calls 3 u l q A c l1 s true w hC hc (luwBack_plain l1 s u l q hB ⟨by omega, by omega⟩ ⟨by omega, by omega⟩)

end Go.Proofs.Ytlbajagnfmbljaa.Q
