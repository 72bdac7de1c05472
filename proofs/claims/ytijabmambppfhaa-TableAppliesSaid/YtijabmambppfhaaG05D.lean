/- Tables, printed by gen.py. -/
import Derived.Test.YtijabmambppfhaaProg
import Derived.Test.YtijabmambppfhaaG05P
set_option linter.unusedVariables false
namespace Go.SyP
open Go Go.Sy Go.Proofs

def api_Pair.e (x : api_Pair) : List DV := [.v (.int .i64 x.Key), .v (.int .i64 x.Val)]
def api_Span.e (x : api_Span) : List DV := [.v (.int .i64 x.Lo), .v (.int .i64 x.Hi)]
def api_Mut.e (x : api_Mut) : List DV := [.v (.int .i64 x.Client), .v (.int .i64 x.Seq), .v (.int .i64 x.Kind), .sl true x.Pairs.length (vec api_Pair.e api_Pair.z x.Pairs), .v (.int .i64 x.Over.Lo), .v (.int .i64 x.Over.Hi), .v (.int .i64 x.Old)]
def spliceref04_Pair.e (x : spliceref04_Pair) : List DV := [.v (.int .i64 x.Key), .v (.int .i64 x.Val)]
def spliceref03_Span.e (x : spliceref03_Span) : List DV := [.v (.int .i64 x.Lo), .v (.int .i64 x.Hi)]
def spliceref05_Cell.e (x : spliceref05_Cell) : List DV := [.v (.int .i64 x.Val), .v (.bool x.Some)]
def spliceref04_Mut.e (x : spliceref04_Mut) : List DV := [.v (.int .i64 x.Client), .v (.int .i64 x.Seq), .v (.int .i64 x.Kind), .sl true x.Pairs.length (vec spliceref04_Pair.e spliceref04_Pair.z x.Pairs), .v (.int .i64 x.Over.Lo), .v (.int .i64 x.Over.Hi), .v (.int .i64 x.Old)]
def splicelaw05_Two.e (x : splicelaw05_Two) : List DV := [.sl true x.A.length (vec api_Pair.e api_Pair.z x.A), .sl true x.B.length (vec api_Pair.e api_Pair.z x.B)]
theorem api_Pair.nl (x : api_Pair) : NLs (api_Pair.e x) := (.cons (.v _) (.cons (.v _) .nil))
theorem api_Span.nl (x : api_Span) : NLs (api_Span.e x) := (.cons (.v _) (.cons (.v _) .nil))
theorem api_Mut.nl (x : api_Mut) : NLs (api_Mut.e x) := (.cons (.v _) (.cons (.v _) (.cons (.v _) (.cons (.sl fun _ _ => api_Pair.nl _) (.cons (.v _) (.cons (.v _) (.cons (.v _) .nil)))))))
theorem spliceref04_Pair.nl (x : spliceref04_Pair) : NLs (spliceref04_Pair.e x) := (.cons (.v _) (.cons (.v _) .nil))
theorem spliceref03_Span.nl (x : spliceref03_Span) : NLs (spliceref03_Span.e x) := (.cons (.v _) (.cons (.v _) .nil))
theorem spliceref05_Cell.nl (x : spliceref05_Cell) : NLs (spliceref05_Cell.e x) := (.cons (.v _) (.cons (.v _) .nil))
theorem spliceref04_Mut.nl (x : spliceref04_Mut) : NLs (spliceref04_Mut.e x) := (.cons (.v _) (.cons (.v _) (.cons (.v _) (.cons (.sl fun _ _ => spliceref04_Pair.nl _) (.cons (.v _) (.cons (.v _) (.cons (.v _) .nil)))))))
theorem splicelaw05_Two.nl (x : splicelaw05_Two) : NLs (splicelaw05_Two.e x) := (.cons (.sl fun _ _ => api_Pair.nl _) (.cons (.sl fun _ _ => api_Pair.nl _) .nil))
def T : Tab where
  info := [(3, (1, 8, [.int .i64 0])), (4, (1, 1, [.bool false])), (22, (1, 24, [.slice none 0 0])), (24, (2, 16, [.int .i64 0, .int .i64 0])), (26, (7, 72, [.int .i64 0, .int .i64 0, .int .i64 0, .slice none 0 0, .int .i64 0, .int .i64 0, .int .i64 0])), (27, (1, 24, [.slice none 0 0])), (32, (1, 24, [.slice none 0 0])), (36, (2, 16, [.int .i64 0, .int .i64 0])), (38, (7, 72, [.int .i64 0, .int .i64 0, .int .i64 0, .slice none 0 0, .int .i64 0, .int .i64 0, .int .i64 0])), (47, (2, 16, [.int .i64 0, .int .i64 0])), (52, (2, 16, [.int .i64 0, .bool false])), (57, (2, 48, [.slice none 0 0, .slice none 0 0])), (90, (2, 16, [.int .i64 0, .int .i64 0]))]
  aggs := [(3, false), (4, false), (22, false), (24, true), (26, true), (27, false), (32, false), (36, true), (38, true), (47, true), (52, true), (57, true), (90, true)]
  flds := [((24, 0), (0, 3)), ((24, 1), (1, 3)), ((26, 0), (0, 3)), ((26, 1), (1, 3)), ((26, 2), (2, 3)), ((26, 3), (3, 22)), ((26, 4), (4, 24)), ((26, 5), (6, 3)), ((36, 0), (0, 3)), ((36, 1), (1, 3)), ((38, 0), (0, 3)), ((38, 1), (1, 3)), ((38, 2), (2, 3)), ((38, 3), (3, 32)), ((38, 4), (4, 36)), ((38, 5), (6, 3)), ((47, 0), (0, 3)), ((47, 1), (1, 3)), ((52, 0), (0, 3)), ((52, 1), (1, 4)), ((57, 0), (0, 22)), ((57, 1), (1, 22)), ((90, 0), (0, 3)), ((90, 1), (1, 3))]
  slices := [(22, 47), (27, 24), (32, 90), (40, 36), (85, 3)]
  strs := []
  ints := [(3, .i64), (132, .u64)]
  has := [3, 132]
  ptrs := []
  bools := [4]
  strts := [(24, [(0, 1), (1, 1)]), (26, [(0, 1), (1, 1), (2, 1), (3, 1), (4, 2), (6, 1)]), (38, [(0, 1), (1, 1), (2, 1), (3, 1), (4, 2), (6, 1)]), (47, [(0, 1), (1, 1)]), (52, [(0, 1), (1, 1)]), (90, [(0, 1), (1, 1)])]
  eqs := [(24, [0, 0]), (47, [0, 0]), (90, [0, 0])]
theorem mixed : Try.prog.follows .mixedOrders = true := by kernel_rfl
theorem tok : TabOk Try.prog T := ⟨by kernel_rfl, by kernel_rfl, by kernel_rfl, by kernel_rfl, by kernel_rfl, by kernel_rfl, by kernel_rfl, by kernel_rfl, by kernel_rfl, by kernel_rfl, by kernel_rfl, by kernel_rfl⟩
theorem enters_14 : Sy.Enters Try.prog 14 := enters_fn Try.func14 (by kernel_rfl) (by kernel_rfl)
theorem enters_15 : Sy.Enters Try.prog 15 := enters_fn Try.func15 (by kernel_rfl) (by kernel_rfl)
theorem enters_16 : Sy.Enters Try.prog 16 := enters_fn Try.func16 (by kernel_rfl) (by kernel_rfl)
theorem enters_17 : Sy.Enters Try.prog 17 := enters_fn Try.func17 (by kernel_rfl) (by kernel_rfl)
theorem enters_18 : Sy.Enters Try.prog 18 := enters_fn Try.func18 (by kernel_rfl) (by kernel_rfl)
theorem enters_19 : Sy.Enters Try.prog 19 := enters_fn Try.func19 (by kernel_rfl) (by kernel_rfl)
theorem enters_20 : Sy.Enters Try.prog 20 := enters_fn Try.func20 (by kernel_rfl) (by kernel_rfl)
theorem enters_21 : Sy.Enters Try.prog 21 := enters_fn Try.func21 (by kernel_rfl) (by kernel_rfl)
theorem enters_22 : Sy.Enters Try.prog 22 := enters_fn Try.func22 (by kernel_rfl) (by kernel_rfl)
theorem enters_23 : Sy.Enters Try.prog 23 := enters_fn Try.func23 (by kernel_rfl) (by kernel_rfl)
theorem enters_24 : Sy.Enters Try.prog 24 := enters_fn Try.func24 (by kernel_rfl) (by kernel_rfl)
theorem enters_25 : Sy.Enters Try.prog 25 := enters_fn Try.func25 (by kernel_rfl) (by kernel_rfl)
theorem enters_26 : Sy.Enters Try.prog 26 := enters_fn Try.func26 (by kernel_rfl) (by kernel_rfl)
theorem enters_27 : Sy.Enters Try.prog 27 := enters_fn Try.func27 (by kernel_rfl) (by kernel_rfl)
theorem enters_28 : Sy.Enters Try.prog 28 := enters_fn Try.func28 (by kernel_rfl) (by kernel_rfl)
theorem enters_29 : Sy.Enters Try.prog 29 := enters_fn Try.func29 (by kernel_rfl) (by kernel_rfl)
theorem enters_30 : Sy.Enters Try.prog 30 := enters_fn Try.func30 (by kernel_rfl) (by kernel_rfl)
theorem enters_42 : Sy.Enters Try.prog 42 := enters_fn Try.func42 (by kernel_rfl) (by kernel_rfl)
theorem enters_43 : Sy.Enters Try.prog 43 := enters_fn Try.func43 (by kernel_rfl) (by kernel_rfl)
theorem enters_44 : Sy.Enters Try.prog 44 := enters_fn Try.func44 (by kernel_rfl) (by kernel_rfl)
theorem enters_45 : Sy.Enters Try.prog 45 := enters_fn Try.func45 (by kernel_rfl) (by kernel_rfl)
theorem enters_46 : Sy.Enters Try.prog 46 := enters_fn Try.func46 (by kernel_rfl) (by kernel_rfl)
theorem enters_47 : Sy.Enters Try.prog 47 := enters_fn Try.func47 (by kernel_rfl) (by kernel_rfl)
theorem enters_48 : Sy.Enters Try.prog 48 := enters_fn Try.func48 (by kernel_rfl) (by kernel_rfl)
theorem enters_49 : Sy.Enters Try.prog 49 := enters_fn Try.func49 (by kernel_rfl) (by kernel_rfl)
theorem enters_50 : Sy.Enters Try.prog 50 := enters_fn Try.func50 (by kernel_rfl) (by kernel_rfl)
theorem enters_51 : Sy.Enters Try.prog 51 := enters_fn Try.func51 (by kernel_rfl) (by kernel_rfl)
theorem enters_52 : Sy.Enters Try.prog 52 := enters_fn Try.func52 (by kernel_rfl) (by kernel_rfl)
theorem enters_53 : Sy.Enters Try.prog 53 := enters_fn Try.func53 (by kernel_rfl) (by kernel_rfl)
theorem enters_54 : Sy.Enters Try.prog 54 := enters_fn Try.func54 (by kernel_rfl) (by kernel_rfl)
theorem enters_55 : Sy.Enters Try.prog 55 := enters_fn Try.func55 (by kernel_rfl) (by kernel_rfl)
theorem enters_56 : Sy.Enters Try.prog 56 := enters_fn Try.func56 (by kernel_rfl) (by kernel_rfl)
theorem enters_57 : Sy.Enters Try.prog 57 := enters_fn Try.func57 (by kernel_rfl) (by kernel_rfl)
theorem enters_75 : Sy.Enters Try.prog 75 := enters_fn Try.func75 (by kernel_rfl) (by kernel_rfl)
theorem enters_80 : Sy.Enters Try.prog 80 := enters_fn Try.func80 (by kernel_rfl) (by kernel_rfl)
theorem enters_81 : Sy.Enters Try.prog 81 := enters_fn Try.func81 (by kernel_rfl) (by kernel_rfl)
theorem enters_82 : Sy.Enters Try.prog 82 := enters_fn Try.func82 (by kernel_rfl) (by kernel_rfl)
theorem enters_83 : Sy.Enters Try.prog 83 := enters_fn Try.func83 (by kernel_rfl) (by kernel_rfl)
theorem enters_84 : Sy.Enters Try.prog 84 := enters_fn Try.func84 (by kernel_rfl) (by kernel_rfl)
theorem enters_85 : Sy.Enters Try.prog 85 := enters_fn Try.func85 (by kernel_rfl) (by kernel_rfl)
theorem enters_86 : Sy.Enters Try.prog 86 := enters_fn Try.func86 (by kernel_rfl) (by kernel_rfl)
theorem enters_87 : Sy.Enters Try.prog 87 := enters_fn Try.func87 (by kernel_rfl) (by kernel_rfl)
theorem enters_88 : Sy.Enters Try.prog 88 := enters_fn Try.func88 (by kernel_rfl) (by kernel_rfl)
theorem enters_89 : Sy.Enters Try.prog 89 := enters_fn Try.func89 (by kernel_rfl) (by kernel_rfl)
theorem enters_90 : Sy.Enters Try.prog 90 := enters_fn Try.func90 (by kernel_rfl) (by kernel_rfl)
theorem enters_91 : Sy.Enters Try.prog 91 := enters_fn Try.func91 (by kernel_rfl) (by kernel_rfl)
theorem enters_101 : Sy.Enters Try.prog 101 := enters_fn Try.func101 (by kernel_rfl) (by kernel_rfl)
theorem enters_106 : Sy.Enters Try.prog 106 := enters_fn Try.func106 (by kernel_rfl) (by kernel_rfl)
theorem enters_107 : Sy.Enters Try.prog 107 := enters_fn Try.func107 (by kernel_rfl) (by kernel_rfl)
theorem enters_108 : Sy.Enters Try.prog 108 := enters_fn Try.func108 (by kernel_rfl) (by kernel_rfl)
theorem enters_111 : Sy.Enters Try.prog 111 := enters_fn Try.func111 (by kernel_rfl) (by kernel_rfl)
theorem enters_112 : Sy.Enters Try.prog 112 := enters_fn Try.func112 (by kernel_rfl) (by kernel_rfl)
theorem enters_113 : Sy.Enters Try.prog 113 := enters_fn Try.func113 (by kernel_rfl) (by kernel_rfl)
end Go.SyP
