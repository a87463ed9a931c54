/-
  Contracts of HolesOf, both sides. No condition of its own.
-/
import Derived.Test.YtfkojbkgpbpjhaaDoorTotal
import Derived.Test.YtfkojbkgpbpjhaaDoorApp2
namespace Go.Proofs.YtfkojbkgpbpjhaaDoor
open Go.ChangeShapes Go.WideShapes Go.ChangeAt Go.RowKit Go.Deep Go.Shelf

theorem rowEnd_fail {w w' : World} {E k : Nat} {c : Int} (hb : Below w.heap.size w w') : RowEnd w E k [] c (.returned (.tuple #[.slice none 0 0, .int .i64 c])) w' :=
  ⟨none, 0, 0, rfl, by simp, by omega, World.ownsRow_nil _ _ _ _, hb⟩
theorem own_one (w : World) (B E : Nat) (v : Value) (hB : B ≤ w.heap.size) : (w.alloc (.cells #[v] E)).ownsRow B E 1 (.slice (some ⟨w.heap.size, 0, none⟩) 1 1) 1 [v] :=
  own_base (World.ownsRow_lit (size := 1) (e := E) w #[v] 1 (Nat.le_refl _) (by unfold maxLen; omega) (by simp)) hB

/-- The holes of one side. -/
def sideH (b z c : Int) : Nat → List Int
  | 0 => []
  | k + 1 => sideH b z c k ++ [b + rndI (z * ((k : Int) + 1)) c]
theorem length_sideH (b z c : Int) (k : Nat) : (sideH b z c k).length = k := by
  induction k with
  | zero => rfl
  | succ k ih => simp only [sideH, List.length_append, ih, List.length_cons, List.length_nil]
def begI (zs : List Int) : Nat → Int
  | 0 => 0
  | i + 1 => begI zs i + zs.getD i 0
def holesI (zs : List Int) (s : Int) : Nat → List Int
  | 0 => [0]
  | i + 1 => holesI zs s i ++ sideH (begI zs i) (zs.getD i 0) (cntI (zs.getD i 0) s) (cntI (zs.getD i 0) s).toNat
def holesF (zs : List Int) (n : Nat) (s : Int) : List Int := if sidesC zs n s = 0 then holesI zs s n else []
theorem begI_bd {zs : List Int} {n : Nat} (h : sidesB zs n = true) (hl : zs.length = n) : ∀ {i : Nat}, i ≤ n → 0 ≤ begI zs i ∧ begI zs i ≤ i * 5000 := by
  intro i
  induction i with
  | zero => intro _; simp [begI]
  | succ i ih =>
    intro hi
    have h1 := ih (by omega)
    have h2 := sides_at h hl (k := i) (by omega)
    simp only [begI]
    omega
theorem side_step {zs ds : List Int} {i k m : Nat} {x z s : Int} (h : ds = holesI zs s i ++ sideH x z m k) : ds ++ [x + rndI (z * ((k : Int) + 1)) m] = holesI zs s i ++ sideH x z m (k + 1) := by
  rw [h]; simp [sideH]
theorem side_end {zs ds : List Int} {i m : Nat} {x z s : Int} (h : ds = holesI zs s i ++ sideH x z m m) (hz : zs.getD i 0 = z) (hx : x = begI zs i) (hm : cntI z s = (m : Int)) : ds = holesI zs s (i + 1) := by
  rw [h]; simp only [holesI, hz, hm, ← hx, Int.toNat_natCast]

end Go.Proofs.YtfkojbkgpbpjhaaDoor
