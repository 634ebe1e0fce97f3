/- Runes and rows of runes are read alike. Conditions: as each theorem says. -/
import Derived.Test.YtdddmehchfnppaaDoorVcF
namespace Go.Proofs.YtdddmehchfnppaaDoor
open Go Go.RowKit Go.Proofs Fl

theorem reads_runes {w : World} {v : Value} {l : List Int} (h : Reads1 w v (l.map (.int .i32))) : Runes w v l := by
  rcases cells_of h with ⟨a, c, rfl, rfl⟩ | ⟨b, o, c, rfl, hc⟩
  · exact .inl ⟨a, c, rfl, rfl⟩
  · exact .inr ⟨b, o, _, c, rfl, rfl, hc⟩
theorem runes_reads {w : World} {v : Value} {l : List Int} (h : Runes w v l) : Reads1 w v (l.map (.int .i32)) := by
  rcases h with ⟨a, c, rfl, rfl⟩ | ⟨b, o, n, c, rfl, hn, hc⟩
  · exact .inl ⟨a, c, rfl, rfl⟩
  · exact .inr ⟨b, o, n, c, rfl, by rw [List.length_map]; exact hn, fun i hi => by rw [hc i (by simpa using hi)]; simp⟩
end Go.Proofs.YtdddmehchfnppaaDoor
