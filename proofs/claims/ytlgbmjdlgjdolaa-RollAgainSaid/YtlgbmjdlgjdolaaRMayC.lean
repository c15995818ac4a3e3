/- Whether a card may be: the document's May. (Printed by tools/genmay.py.) -/
import Derived.Test.YtlgbmjdlgjdolaaMayC
namespace Go.Proofs.Ytlgbmjdlgjdolaa
open Go.RowKit Go.Lib Tx Nm
theorem may_any (c : Cd) (sl : Value) (w : World) (hs : Strs w sl c.comp) (hok : c.ok) : Calls Try.prog 22 #[.agg (c.cells sl).toArray] w (GivesB (mayB c) w) :=
  may_walk c.name c.fam c.quirk c.lvl c.score c.ent c.comp sl w hs hok
end Go.Proofs.Ytlgbmjdlgjdolaa
