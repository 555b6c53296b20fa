/- Candidates, cell by cell. -/
import Derived.Test.YtikakdcjbnbacaaSmPlainC
import Derived.Test.YtikakdcjbnbacaaCdRight
import Derived.Outline
import Derived.Deep.Light
import Derived.Deep.LoopGhost
namespace Go.Proofs.Ytikakdcjbnbacaa
open Go.RowKit
set_option linter.unusedVariables false

theorem es_cands {w : World} {B : Nat} {A : Option Addr} {l : List Cd} (h : ES w B A 4 (l.map Cd.cs)) : Cands w B A l := by
  rcases h with h | ⟨b, off, hb, hA, hel⟩
  · exact .inl (by simpa using h)
  · exact .inr ⟨b, off, hb, hA, fun k hk => cd_cells hel hk⟩
theorem cells_el {w : World} {b off : Nat} {l : List Cd} (h : CellsAt w b off l) : ElAt w b off 4 (l.map Cd.cs) := by
  have hsz := sz_map Cd.cs_len l
  refine ⟨hsz, fun j u hu => ?_⟩
  obtain ⟨hj, _⟩ := List.getElem?_eq_some_iff.1 hu
  rw [flat_len hsz, List.length_map] at hj
  have hd : j / 4 < l.length := by omega
  have e := flat_get hsz (j / 4) (by simpa using hd) (j % 4) (by omega)
  rw [show j / 4 * 4 + j % 4 = j by omega, hu] at e
  simp only [List.getElem_map] at e
  obtain ⟨c0, c1, c2, c3⟩ := h (j / 4) hd
  have hm : j % 4 = 0 ∨ j % 4 = 1 ∨ j % 4 = 2 ∨ j % 4 = 3 := by omega
  rcases hm with hm | hm | hm | hm <;> rw [hm] at e <;> simp [Cd.cs] at e <;> subst e
  · rw [show off + j = off + j / 4 * 4 by omega]; exact c0
  · rw [show off + j = off + j / 4 * 4 + 1 by omega]; exact c1
  · rw [show off + j = off + j / 4 * 4 + 2 by omega]; exact c2
  · rw [show off + j = off + j / 4 * 4 + 3 by omega]; exact c3
end Go.Proofs.Ytikakdcjbnbacaa
