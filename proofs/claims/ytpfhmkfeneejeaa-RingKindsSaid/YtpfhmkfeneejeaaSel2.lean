/- The five ways of a select of one case with a default, at a region's head; over any program. -/
import Derived.Test.YtpfhmkfeneejeaaSel
namespace Go.LawEnd
open Go.Conc Go.RowKit
section
variable {P : Program} {id : Nat} {o : Oper} {rest : List Oper} {Q : Exit → Act → World → Prop} {a : Act} {w : World} {c cap s r : Nat} {buf : Array Value} {v z : Value} {tm closed : Bool}

theorem wp_select_send_room (hg : o.guard = none) (hex : (execOp a.eval o).run P w = .ok (.comm #[scase c v z] false .select) w) (hc : w.heap[c]? = some (.chan cap buf false s r tm)) (hroom : buf.size < cap)
    (h : wpList P (o :: rest).toArray Q rest (a.put o.dst (.tuple #[goInt 0, .bool false])) (w.setChan c cap (buf.push v) false (s + 1) r tm)) : (Code.region id (o :: rest).toArray false).wp P Q a w :=
  wp_region_comm hg hex (fun _ _ _ hs => step_lone_select_send_room hs hc hroom) h
theorem wp_select_send_full (hg : o.guard = none) (hex : (execOp a.eval o).run P w = .ok (.comm #[scase c v z] false .select) w) (hc : w.heap[c]? = some (.chan cap buf false s r tm)) (hfull : cap ≤ buf.size)
    (h : wpList P (o :: rest).toArray Q rest (a.put o.dst (.tuple #[goInt (-1), .bool false])) w) : (Code.region id (o :: rest).toArray false).wp P Q a w :=
  wp_region_comm hg hex (fun _ _ _ hs => step_lone_select_send_full hs hc hfull) h
theorem wp_select_recv_buf (hg : o.guard = none) (hex : (execOp a.eval o).run P w = .ok (.comm #[rcase c z] false .select) w) (hc : w.heap[c]? = some (.chan cap buf closed s r tm)) (hsome : 0 < buf.size)
    (h : wpList P (o :: rest).toArray Q rest (a.put o.dst (.tuple #[goInt 0, .bool true, buf.getD 0 undef])) (w.setChan c cap (buf.extract 1 buf.size) closed s (r + 1) tm)) : (Code.region id (o :: rest).toArray false).wp P Q a w :=
  wp_region_comm hg hex (fun _ _ _ hs => step_lone_select_recv_buf hs hc hsome) h
theorem wp_select_recv_shut (hg : o.guard = none) (hex : (execOp a.eval o).run P w = .ok (.comm #[rcase c z] false .select) w) (hc : w.heap[c]? = some (.chan cap #[] true s r tm))
    (h : wpList P (o :: rest).toArray Q rest (a.put o.dst (.tuple #[goInt 0, .bool false, z])) w) : (Code.region id (o :: rest).toArray false).wp P Q a w :=
  wp_region_comm hg hex (fun _ _ _ hs => step_lone_select_recv_shut hs hc) h
theorem wp_select_recv_none (hg : o.guard = none) (hex : (execOp a.eval o).run P w = .ok (.comm #[rcase c z] false .select) w) (hc : w.heap[c]? = some (.chan cap #[] false s r tm))
    (h : wpList P (o :: rest).toArray Q rest (a.put o.dst (.tuple #[goInt (-1), .bool false, z])) w) : (Code.region id (o :: rest).toArray false).wp P Q a w :=
  wp_region_comm hg hex (fun _ _ _ hs => step_lone_select_default hs hc) h
end
end Go.LawEnd
