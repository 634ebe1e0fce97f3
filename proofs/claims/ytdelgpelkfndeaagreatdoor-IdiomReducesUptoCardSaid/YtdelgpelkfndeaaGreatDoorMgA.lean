/- A fact laid aside, under a short name. -/
import Derived.Lib.Hide
namespace Go.Proofs.YtdelgpelkfndeaaGreatDoor
theorem hD {p : Prop} (h : p) : RowKit.Hid p := h
end Go.Proofs.YtdelgpelkfndeaaGreatDoor
