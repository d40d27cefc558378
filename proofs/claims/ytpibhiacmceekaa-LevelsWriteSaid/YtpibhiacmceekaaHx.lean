/- Small words for the walks that are written by hand. -/
import Derived.Test.YtpibhiacmceekaaX0
import Derived.StillTailTactics
namespace Go.Proofs.Ytpibhiacmceekaa.X
open Go.RowKit Go.Proofs.YtpibhiacmceekaaW.PrintWords Go.Proofs.YtpibhiacmceekaaW.PrintLast Go.Proofs.YtpibhiacmceekaaW.PrintMore

/-- An element of a slice of numbers that is read: its cell. -/
theorem c_at {k : IntKind} {w : World} {A : Option Addr} {n : Nat} {xs : List Int} (h : Kd.C (Kd.int k) w A n xs) (i : Int) (h0 : 0 ≤ i) (h1 : i < n) : ∃ ad, A = some ad ∧ w.cell? (ad.add i.toNat) = some (.int k (rd xs i)) := by
  obtain ⟨ad, c, e, _, hR, hc⟩ := ReadsRow.get_ h 0 i h0 h1
  refine ⟨ad, e, ?_⟩
  have : c = [.int k (rd xs i)] := hR
  subst this
  have := hc 0 _ rfl
  simpa [Kd.int, Kd.scalar] using this

/-- A row of numbers reads alike wherever the heap's old blocks are alike. -/
theorem c_step {k : IntKind} {w w' : World} {A : Option Addr} {n : Nat} {xs : List Int} (h : Kd.C (Kd.int k) w A n xs) (hs : ∀ b, b < w.heap.size → w'.heap[b]? = w.heap[b]?) : Kd.C (Kd.int k) w' A n xs := by
  refine ⟨h.1, h.2.1, fun hn => ?_⟩
  obtain ⟨ad, e, hc⟩ := h.2.2 hn
  refine ⟨ad, e, fun j p hj => ?_⟩
  obtain ⟨c, hl, hr, hcell⟩ := hc j p hj
  refine ⟨c, hl, hr, fun i u hu => ?_⟩
  have h1 := hcell i u hu
  have := hs _ (World.block_lt_of_cell? w _ h1)
  simpa [World.cell?, this] using h1
/-- A slice of numbers that came in, as a value that is only read. -/
theorem v_of_c {k : IntKind} {w : World} {A : Option Addr} {c e base : Nat} {xs : List Int} (h : Kd.C (Kd.int k) w A xs.length xs) (hc : xs.length ≤ c) : Kd.V (Kd.int k) e w base (fun _ => True) (.slice A xs.length c) xs :=
  Kd.V_mk hc (fun _ hW => c_step h (fun b hb => hW b trivial hb))

/-- A region that draws its order, in which all but the end only reads: one walk in the text's order, the world behind the draw under a name. -/
theorem region_tail {P : Program} {id : Nat} {Q : Exit → Act → World → Prop} {a : Act} {w : World} {l : List Oper} (n : Nat) (hm : P.follows .mixedOrders = true) (hB : Region.lexTailB .any l.toArray n = true)
    (h : ∀ w3 : World, w3 = w.drew → wpStill P l.toArray w3 (fun a' => wpList P l.toArray Q (l.drop n) a' w3) (l.take n) a) : (Code.region id l.toArray true).wp P Q a w :=
  wp_region_still_tail n hm hB (h _ rfl)
end Go.Proofs.Ytpibhiacmceekaa.X
