/- The pure statement of PortPlays. -/
import Derived.Test.YtclhddldbfdfdaaStPortPlays
namespace Go.Proofs.Ytclhddldbfdfdaa
theorem Pure.PortPlays : Ppl.PortPlays.Pure := by
  intro a0 a1 l2 _ _ _ h
  refine ⟨0, if_pos (decide_eq_true (fun x hx => ?_))⟩
  obtain ⟨_, _, _, h1, _, _, _, h2, _⟩ := h x hx
  exact ⟨h1, h2⟩
end Go.Proofs.Ytclhddldbfdfdaa
