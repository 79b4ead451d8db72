/- A part of the proof of FnGivenOnce: an interpreter of the model over plain data, its soundness, and what it makes of the functions that the statement reaches. Conditions: none beyond what the given statement itself says. -/
import Derived.Test.YtnfegdcbofnjhaaTE
import Derived.Test.YtnfegdcbofnjhaaProg
set_option linter.unusedVariables false
set_option linter.unusedSimpArgs false
set_option linter.unnecessarySimpa false
set_option linter.unusedSectionVars false
/- Tables of V for laws of a seat (printed by wip/tools/envgen.py). -/
namespace GoV
open Go Go.Proofs
def tiT : List (Nat × TI) := [
  (3, ⟨.int .i64, 1, false, some (.int .i64), [.d .fro (.int .i64) (0 : Int)]⟩),
  (4, ⟨.bool, 1, false, some .bool, [.d .fro .bool false]⟩),
  (5, ⟨.int .u8, 1, false, some (.int .u8), [.d .fro (.int .u8) (0 : Int)]⟩),
  (39, ⟨.slice 3 (.int .i64), 1, false, some (.sl (.int .i64)), [.nil (.int .i64)]⟩),
  (40, ⟨.slice 104 (.pair (.int .i64) (.pair (.int .i64) (.sl (.int .i64)))), 1, false, some (.sl (.pair (.int .i64) (.pair (.int .i64) (.sl (.int .i64))))), [.nil (.pair (.int .i64) (.pair (.int .i64) (.sl (.int .i64))))]⟩),
  (42, ⟨.struct [(0, 1, false), (1, 1, false), (2, 1, false), (3, 1, false), (4, 1, false), (5, 1, false), (6, 1, false)], 7, true, some (.pair (.sl (.int .i64)) (.pair (.int .i64) (.pair (.sl (.int .i64)) (.pair (.sl (.pair (.int .i64) (.pair (.int .i64) (.sl (.int .i64))))) (.pair (.sl (.int .i64)) (.pair (.int .i64) (.int .i64))))))), [.nil (.int .i64), .d .fro (.int .i64) (0 : Int), .nil (.int .i64), .nil (.pair (.int .i64) (.pair (.int .i64) (.sl (.int .i64)))), .nil (.int .i64), .d .fro (.int .i64) (0 : Int), .d .fro (.int .i64) (0 : Int)]⟩),
  (43, ⟨.slice 4 .bool, 1, false, some (.sl .bool), [.nil .bool]⟩),
  (64, ⟨.slice 5 (.int .u8), 1, false, some (.sl (.int .u8)), [.nil (.int .u8)]⟩),
  (99, ⟨.other, 1, false, none, [.dead]⟩),
  (100, ⟨.int .u64, 1, false, some (.int .u64), [.d .fro (.int .u64) (0 : Int)]⟩),
  (102, ⟨.struct [(0, 1, false), (1, 1, false), (2, 1, false)], 3, true, some (.pair (.sl (.int .u8)) (.pair (.int .i64) (.int .u64))), [.nil (.int .u8), .d .fro (.int .i64) (0 : Int), .d .fro (.int .u64) (0 : Int)]⟩),
  (104, ⟨.struct [(0, 1, false), (1, 1, false), (2, 1, false)], 3, true, some (.pair (.int .i64) (.pair (.int .i64) (.sl (.int .i64)))), [.d .fro (.int .i64) (0 : Int), .d .fro (.int .i64) (0 : Int), .nil (.int .i64)]⟩),
  (112, ⟨.other, 1, false, none, [.dead]⟩),
  (121, ⟨.int .u64, 1, false, some (.int .u64), [.d .fro (.int .u64) (0 : Int)]⟩)]
noncomputable def fnT : List (Nat × Func) := [(9, Try.f9), (43, Try.f43), (20, Try.f20), (18, Try.f18), (44, Try.f44), (38, Try.f38), (45, Try.f45), (39, Try.f39), (41, Try.f41), (34, Try.f34), (36, Try.f36), (85, Try.f85), (86, Try.f86), (63, Try.f63), (64, Try.f64), (65, Try.f65), (60, Try.f60), (62, Try.f62), (61, Try.f61), (80, Try.f80), (81, Try.f81), (75, Try.f75), (76, Try.f76), (77, Try.f77), (79, Try.f79), (107, Try.f107), (105, Try.f105), (98, Try.f98), (99, Try.f99), (74, Try.f74), (104, Try.f104), (106, Try.f106), (103, Try.f103)]
def kpT : List (Nat × List (Nat × List Nat)) := [
  (9, [(0, [0]), (1, [0, 31]), (2, [2]), (3, [3, 4]), (4, [3, 4, 5, 6, 7]), (5, [3, 5, 6, 7, 8, 9, 10]), (6, [3, 5, 6, 7, 65]), (7, [2]), (8, [3, 5, 6, 67]), (9, [2]), (10, [3, 5, 11, 12, 13]), (11, [3, 5, 11, 101]), (12, [2]), (13, [3, 5, 11, 14, 15, 16]), (14, [3, 5, 11, 14, 15, 16, 17, 18, 19]), (15, [3, 5, 11, 14, 15, 16, 17, 18, 19, 20, 22]), (16, [3, 5, 162]), (17, [2]), (18, [3, 23, 25]), (19, [3, 25, 26, 27, 28]), (20, [2])]),
  (43, [(0, [0]), (1, [4]), (2, [2, 3])]),
  (20, [(0, [0, 1, 4]), (1, [1, 4, 7, 8]), (2, [1, 4, 7, 23]), (3, [4, 5, 6]), (4, [1, 4, 7, 9]), (5, [4, 7, 9, 25, 26, 27]), (6, [4, 7, 9, 25, 26, 27, 28]), (7, [4, 7, 9, 11, 25, 26, 27]), (8, [4, 7, 9, 25, 26, 27]), (9, [4, 7, 9, 25, 26, 27]), (10, [4, 5, 6])]),
  (18, [(0, [0, 1, 4]), (1, [1, 4, 7, 8]), (2, [1, 4, 7, 25]), (3, [4, 5, 6]), (4, [1, 4, 7, 9]), (5, [4, 7, 9, 27, 28, 29]), (6, [4, 7, 9, 27, 28, 29, 30]), (7, [4, 7, 9, 11, 27, 28, 29]), (8, [4, 7, 9, 12, 13, 27, 28, 29]), (9, [4, 7, 9, 12, 13, 27, 28, 29, 40]), (10, [4, 7, 9, 13, 27, 28, 29]), (11, [4, 7, 9, 27, 28, 29]), (12, [4, 7, 9, 27, 28, 29]), (13, [4, 5, 6])]),
  (44, [(0, [0, 1]), (1, [0, 1, 10]), (2, [4]), (3, [0, 1, 12, 13]), (4, [0, 1, 12, 13, 14]), (5, [0, 1, 5, 12, 13]), (6, [0, 1, 12, 13, 24]), (7, [4]), (8, [0, 1, 12, 13]), (9, [4])]),
  (38, [(0, [2, 3]), (1, [2, 3, 57]), (2, [4]), (3, [2, 3, 60, 61]), (4, [2, 3, 60, 61, 62]), (5, [2, 3, 5, 60, 61]), (6, [2, 3, 60, 61, 107]), (7, [4]), (8, [2, 3, 60, 61]), (9, [4])]),
  (45, [(0, [1]), (1, [1, 7]), (2, [2, 3, 4]), (3, [2, 3, 4])]),
  (39, [(0, [1]), (1, [1, 38]), (2, [2]), (3, [1, 3]), (4, [1, 3, 42, 43, 44]), (5, [1, 3, 42, 43, 44, 45]), (6, [1, 3, 4, 5, 42, 43, 44]), (7, [1, 5, 42, 43, 44, 82]), (8, [2]), (9, [1, 3, 42, 43, 44]), (10, [1, 3, 42, 43, 44]), (11, [2])]),
  (41, [(0, [0, 1]), (1, [0, 1, 10]), (2, [4]), (3, [0, 1, 12, 13]), (4, [0, 1, 12, 13, 14]), (5, [0, 1, 5, 12, 13]), (6, [0, 1, 12, 13, 24]), (7, [4]), (8, [0, 1, 12, 13]), (9, [4])]),
  (34, [(0, [1, 2]), (1, [1, 2, 9]), (2, [2, 3, 4]), (3, [2, 5]), (4, [2, 5]), (5, [2, 5, 6]), (6, [2, 3, 4])]),
  (36, [(0, [1, 2]), (1, [1, 2, 8]), (2, [2, 3, 4]), (3, [1, 2, 5]), (4, [1, 2, 5, 15]), (5, [1, 2, 5]), (6, [1, 2, 5]), (7, [1, 2, 5]), (8, [1, 2, 5]), (9, [2, 3, 4])]),
  (85, [(0, [0]), (1, [0, 3]), (2, [0, 3, 4]), (3, [0, 3, 4, 8]), (4, [0, 3, 4]), (5, [0, 3, 4, 13]), (6, [0, 3, 4]), (7, [0, 3, 4]), (8, [2])]),
  (86, [(0, [0]), (1, [0, 3]), (2, [0, 3, 4]), (3, [0, 3, 4, 8]), (4, [0, 3, 4]), (5, [0, 3, 4, 13]), (6, [0, 3, 4]), (7, [0, 3, 4]), (8, [0, 3, 4, 23]), (9, [0, 3, 4]), (10, [3, 37]), (11, [3]), (12, [2])]),
  (63, [(0, [0, 2]), (1, [0, 2, 6]), (2, [2, 3]), (3, [2, 3])]),
  (64, [(0, [0, 1]), (1, [0, 5]), (2, [0, 5, 6]), (3, [4]), (4, [0, 5, 10]), (5, [4]), (6, [0, 5, 14]), (7, [4]), (8, [0, 5, 18]), (9, [4]), (10, [0, 22]), (11, [0, 29]), (12, [4]), (13, [0]), (14, [4]), (15, [4])]),
  (65, [(0, [1, 2]), (1, [1, 2]), (2, [1, 2, 3]), (3, [1, 2, 3, 19, 20, 21]), (4, [1, 2, 3, 19, 20, 21, 22]), (5, [1, 2, 3, 5, 19, 20, 21]), (6, [1, 2, 3, 19, 20, 21]), (7, [1, 2, 3, 19, 20, 21]), (8, [1, 2]), (9, [2])]),
  (60, [(0, [0, 2]), (1, [0, 2, 6]), (2, [2, 3]), (3, [2, 3])]),
  (62, [(0, [1, 2]), (1, [1, 2]), (2, [1, 2]), (3, [1, 2]), (4, [1, 2, 3]), (5, [1, 2, 3, 22, 23, 24]), (6, [1, 2, 3, 22, 23, 24, 25]), (7, [1, 2, 3, 5, 22, 23, 24]), (8, [1, 2, 3, 22, 23, 24]), (9, [1, 2, 3, 22, 23, 24]), (10, [1, 2]), (11, [2])]),
  (61, [(0, [1, 2, 4]), (1, [1, 2, 4, 6]), (2, [2, 4, 6, 11]), (3, [2, 4, 6, 11, 12]), (4, [2, 4, 19]), (5, [4, 5]), (6, [2, 4]), (7, [2, 4]), (8, [4, 5]), (9, [2, 4, 6, 11, 37]), (10, [2, 4, 6, 53]), (11, [4, 5]), (12, [2, 4]), (13, [2, 4]), (14, [4, 5]), (15, [2, 4, 6, 11, 72]), (16, [2, 4, 75]), (17, [4, 5]), (18, [2, 4, 7]), (19, [2, 4, 7]), (20, [2, 4, 7]), (21, [2, 4]), (22, [2, 4]), (23, [4, 5]), (24, [2, 4, 6, 11, 98]), (25, [4, 5]), (26, [2, 4, 6, 102]), (27, [2, 4, 6, 105]), (28, [4, 5]), (29, [2, 4]), (30, [4, 5]), (31, [4, 5])]),
  (80, [(0, [0, 1, 2]), (1, [6])]),
  (81, [(0, [0, 1]), (1, [0, 1, 10]), (2, [4]), (3, [0, 1, 12, 13]), (4, [0, 1, 12, 13, 14]), (5, [0, 1, 5, 12, 13]), (6, [0, 1, 12, 13, 24]), (7, [4]), (8, [0, 1, 12, 13]), (9, [4])]),
  (75, [(0, [0]), (1, []), (2, [2])]),
  (76, [(0, [0, 1]), (1, [0, 1, 5]), (2, [0, 1, 5, 8]), (3, [0, 1, 5]), (4, [4])]),
  (77, [(0, [0]), (1, [0, 29]), (2, [2]), (3, [0]), (4, []), (5, [2])]),
  (79, [(0, [0, 1]), (1, [0, 1, 7]), (2, [4]), (3, [0, 1, 5]), (4, [0, 1, 5, 11]), (5, [1, 5]), (6, [4])]),
  (107, [(0, [0, 1]), (1, [4])]),
  (105, [(0, [0, 1]), (1, [4])]),
  (98, [(0, [0]), (1, [0, 12]), (2, [2]), (3, [0]), (4, []), (5, [2])]),
  (99, [(0, [0]), (1, [0, 9]), (2, [2]), (3, [0, 3]), (4, [0, 3]), (5, [0]), (6, []), (7, [2])]),
  (74, [(0, [1, 2]), (1, [1, 2]), (2, [1, 2]), (3, [2])]),
  (104, [(0, [1]), (1, [1, 3]), (2, [1, 3, 9]), (3, [2]), (4, [2])]),
  (106, [(0, [0]), (1, [0, 3]), (2, [0, 3, 13]), (3, [0, 3]), (4, [0, 3]), (5, [0, 3]), (6, [0, 3, 53]), (7, [2]), (8, [2])]),
  (103, [(0, [1]), (1, [1, 3]), (2, [1, 3, 8]), (3, [2]), (4, [2])])]
def lhT : List (Nat × List (Nat × List (Nat × List Fl))) := [
  (20, [(6, [(4, [.deep, .fro, .deep, .deep, .deep]), (7, [.deep, .fro, .deep, .deep, .deep]), (9, [.deep]), (25, [.fro]), (26, []), (27, [])])]),
  (18, [(6, [(4, [.deep, .fro, .deep, .deep, .deep]), (7, [.deep, .fro, .deep, .deep, .deep]), (9, [.deep]), (27, [.fro]), (28, []), (29, [])])]),
  (44, [(4, [(0, [.fro]), (1, [.fro]), (12, []), (13, [])])]),
  (38, [(4, [(2, [.fro, .fro, .fro, .fro, .fro]), (3, [.fro, .fro, .fro, .fro, .fro]), (60, []), (61, [])])]),
  (39, [(5, [(1, [.fro, .fro, .fro, .fro, .fro]), (3, []), (42, [.fro]), (43, []), (44, [])])]),
  (41, [(4, [(0, [.fro]), (1, [.fro]), (12, []), (13, [])])]),
  (85, [(5, [(0, []), (3, [.deep]), (4, [])]), (1000008, [(0, [.fro]), (3, [])])]),
  (86, [(5, [(0, []), (3, [.deep]), (4, [])]), (1000012, [(0, [.fro]), (3, [])])]),
  (64, [(1000003, [(0, [.deep, .deep, .deep, .deep, .deep, .deep, .deep, .deep, .deep, .deep, .deep, .deep, .deep, .deep, .deep, .deep, .deep, .deep, .deep, .deep])]), (1000005, [(0, [.deep, .deep, .deep, .deep, .deep, .deep, .deep, .deep, .deep, .deep, .deep, .deep, .deep, .deep, .deep, .deep, .deep, .deep, .deep, .deep])]), (1000007, [(0, [.deep, .deep, .deep, .deep, .deep, .deep, .deep, .deep, .deep, .deep, .deep, .deep, .deep, .deep, .deep, .deep, .deep, .deep, .deep, .deep])]), (1000009, [(0, [.deep, .deep, .deep, .deep, .deep, .deep, .deep, .deep, .deep, .deep, .deep, .deep, .deep, .deep, .deep, .deep, .deep, .deep, .deep, .deep])]), (1000012, [(0, [.deep, .deep, .deep, .deep, .deep, .deep, .deep, .deep, .deep, .deep, .deep, .deep, .deep, .deep, .deep, .deep, .deep, .deep, .deep, .deep])]), (1000014, [(0, [.deep, .deep, .deep, .deep, .deep, .deep, .deep, .deep, .deep, .deep, .deep, .deep, .deep, .deep, .deep, .deep, .deep, .deep, .deep, .deep])]), (1000015, [(0, [.deep, .deep, .deep, .deep, .deep, .deep, .deep, .deep, .deep, .deep, .deep, .deep, .deep, .deep, .deep, .deep, .deep, .deep, .deep, .deep])])]),
  (65, [(4, [(1, [.deep, .fro, .deep, .fro, .deep]), (2, [.deep, .fro, .deep, .deep, .deep]), (3, [.deep]), (19, [.fro]), (20, []), (21, [])])]),
  (62, [(6, [(1, [.deep, .fro, .deep, .fro, .deep]), (2, [.deep, .fro, .deep, .deep, .deep]), (3, [.deep]), (22, [.fro]), (23, []), (24, [])])]),
  (81, [(4, [(0, [.fro]), (1, [.fro]), (12, []), (13, [])])]),
  (75, [(1000002, [(0, [.deep, .deep, .deep, .deep, .deep, .deep, .deep, .deep, .deep, .deep, .deep, .deep, .deep, .deep, .deep, .deep, .deep, .deep, .deep, .deep])])]),
  (76, [(2, [(0, []), (1, []), (5, [])]), (1000004, [(0, [.deep, .deep, .deep, .deep, .deep, .deep, .deep, .deep, .deep, .deep, .deep, .deep, .deep, .deep, .deep, .deep, .deep, .deep, .deep, .deep]), (5, [])])]),
  (77, [(1000002, [(0, [.deep, .deep, .deep, .deep, .deep, .deep, .deep, .deep, .deep, .deep, .deep, .deep, .deep, .deep, .deep, .deep, .deep, .deep, .deep, .deep])]), (1000005, [(0, [.deep, .deep, .deep, .deep, .deep, .deep, .deep, .deep, .deep, .deep, .deep, .deep, .deep, .deep, .deep, .deep, .deep, .deep, .deep, .deep])])]),
  (79, [(1000002, [(0, [.fro])]), (1000006, [(0, [.fro]), (1, []), (5, [])])]),
  (107, [(1000001, [(0, [.fro]), (1, [])])]),
  (105, [(1000001, [(0, [.fro]), (1, [])])]),
  (98, [(1000002, [(0, [.deep, .deep, .deep, .deep, .deep, .deep, .deep, .deep, .deep, .deep, .deep, .deep, .deep, .deep, .deep, .deep, .deep, .deep, .deep, .deep])]), (1000005, [(0, [.deep, .deep, .deep, .deep, .deep, .deep, .deep, .deep, .deep, .deep, .deep, .deep, .deep, .deep, .deep, .deep, .deep, .deep, .deep, .deep])])]),
  (99, [(1000002, [(0, [.deep, .deep, .deep, .deep, .deep, .deep, .deep, .deep, .deep, .deep, .deep, .deep, .deep, .deep, .deep, .deep, .deep, .deep, .deep, .deep])]), (1000007, [(0, [.deep, .deep, .deep, .deep, .deep, .deep, .deep, .deep, .deep, .deep, .deep, .deep, .deep, .deep, .deep, .deep, .deep, .deep, .deep, .deep])])]),
  (106, [(1000007, [(0, [.fro]), (3, [])]), (1000008, [(0, [.fro])])])]
def mdT : List (Nat × List Mode) := [(61, [(.mv .deep)]), (64, [(.bx [.deep, .deep, .deep, .deep, .deep, .deep, .deep, .deep, .deep, .deep, .deep, .deep, .deep, .deep, .deep, .deep, .deep, .deep, .deep, .deep])]), (74, [(.mv .deep)]), (75, [(.bx [.deep, .deep, .deep, .deep, .deep, .deep, .deep, .deep, .deep, .deep, .deep, .deep, .deep, .deep, .deep, .deep, .deep, .deep, .deep, .deep])]), (76, [(.bx [.deep, .deep, .deep, .deep, .deep, .deep, .deep, .deep, .deep, .deep, .deep, .deep, .deep, .deep, .deep, .deep, .deep, .deep, .deep, .deep])]), (77, [(.bx [.deep, .deep, .deep, .deep, .deep, .deep, .deep, .deep, .deep, .deep, .deep, .deep, .deep, .deep, .deep, .deep, .deep, .deep, .deep, .deep])]), (79, [(.bx [.fro])]), (85, [(.bx [.fro])]), (86, [(.bx [.fro])]), (98, [(.bx [.deep, .deep, .deep, .deep, .deep, .deep, .deep, .deep, .deep, .deep, .deep, .deep, .deep, .deep, .deep, .deep, .deep, .deep, .deep, .deep])]), (99, [(.bx [.deep, .deep, .deep, .deep, .deep, .deep, .deep, .deep, .deep, .deep, .deep, .deep, .deep, .deep, .deep, .deep, .deep, .deep, .deep, .deep])]), (105, [(.bx [.fro])]), (106, [(.bx [.fro])]), (107, [(.bx [.fro])])]
def rtT : List (Nat × List Fl) := [(9, [.fro]), (43, [.deep, .deep]), (20, [.deep, .fro, .deep, .deep, .deep, .fro, .fro, .deep, .fro]), (18, [.deep, .fro, .deep, .deep, .deep, .fro, .fro, .deep, .fro]), (44, [.fro]), (38, [.fro]), (45, [.deep, .fro, .fro]), (39, [.fro]), (41, [.fro]), (34, [.deep, .fro, .deep, .deep, .deep, .fro, .fro, .fro, .fro]), (36, [.deep, .fro, .deep, .deep, .deep, .fro, .fro, .fro, .fro]), (85, [.deep]), (86, [.deep]), (63, [.deep, .fro, .deep, .deep, .deep, .fro, .fro, .fro]), (64, [.fro]), (65, [.deep, .fro, .deep, .deep, .deep, .fro, .fro]), (60, [.deep, .fro, .deep, .deep, .deep, .fro, .fro, .fro]), (62, [.deep, .fro, .deep, .deep, .deep, .fro, .fro]), (61, [.deep, .fro, .deep, .deep, .deep, .fro, .fro, .fro]), (80, [.fro]), (81, [.fro]), (75, [.fro]), (76, [.fro]), (77, [.fro]), (79, [.fro]), (107, [.fro]), (105, [.fro]), (98, [.fro]), (99, [.fro]), (74, [.deep, .fro, .deep, .deep, .deep, .fro, .fro]), (104, [.fro]), (106, [.fro]), (103, [.fro])]
def eqtT : List Nat := []
def snT : List (Nat × Nat) := []
def extT : List (Nat × (List Cell → Option (Val × List Cell))) := [(87, (extClone (.int .i64)))]
noncomputable def E : Env where
  ti := assoc tiT
  fns := assoc fnT
  md := fun f => match assoc mdT f with | some l => l | none => []
  kp := fun f r => match assoc kpT f with | some l => assoc l r | none => none
  lh := fun f r => match assoc lhT f with | some l => assoc l r | none => none
  rt := assoc rtT
  eqt := fun t => eqtT.any (Nat.beq t)
  sn := fun f r => snT.any fun p => Nat.beq p.1 f && Nat.beq p.2 r
  ext := assoc extT
def extOf (k : Nat) : List Cell → Option (Val × List Cell) := match assoc extT k with | some g => g | none => fun _ => none
def root9 : List Cell := [⟨.val .one, Ty.leaves .fro (.sl (.int .u8)) (Ty.zero (.sl (.int .u8))), false, false, false, 0, 0⟩]
end GoV
