/- Tables, printed by gen.py. -/
import Derived.Test.YtkgiljggkgfkjaaProg
import Derived.Test.YtkgiljggkgfkjaaG03P
set_option linter.unusedVariables false
namespace Go.SyP
open Go Go.Sy Go.Proofs

def api_Span.e (x : api_Span) : List DV := [.v (.int .i64 x.Lo), .v (.int .i64 x.Hi)]
def spliceref03_Span.e (x : spliceref03_Span) : List DV := [.v (.int .i64 x.Lo), .v (.int .i64 x.Hi)]
theorem api_Span.nl (x : api_Span) : NLs (api_Span.e x) := (.cons (.v _) (.cons (.v _) .nil))
theorem spliceref03_Span.nl (x : spliceref03_Span) : NLs (spliceref03_Span.e x) := (.cons (.v _) (.cons (.v _) .nil))
def T : Tab where
  info := [(3, (1, 8, [.int .i64 0])), (4, (1, 1, [.bool false])), (22, (1, 24, [.slice none 0 0])), (39, (2, 16, [.int .i64 0, .int .i64 0])), (42, (2, 16, [.int .i64 0, .int .i64 0]))]
  aggs := [(3, false), (4, false), (22, false), (39, true), (42, true)]
  flds := [((39, 0), (0, 3)), ((39, 1), (1, 3)), ((42, 0), (0, 3)), ((42, 1), (1, 3))]
  slices := [(22, 39), (28, 42), (57, 4), (67, 22)]
  strs := []
  ints := []
  has := []
  ptrs := []
  bools := [4]
  strts := [(39, [(0, 1), (1, 1)]), (42, [(0, 1), (1, 1)])]
  eqs := [(39, [0, 0]), (42, [0, 0])]
theorem mixed : Try.prog.follows .mixedOrders = true := by kernel_rfl
theorem tok : TabOk Try.prog T := ⟨by kernel_rfl, by kernel_rfl, by kernel_rfl, by kernel_rfl, by kernel_rfl, by kernel_rfl, by kernel_rfl, by kernel_rfl, by kernel_rfl, by kernel_rfl, by kernel_rfl, by kernel_rfl⟩
theorem enters_13 : Sy.Enters Try.prog 13 := enters_fn Try.func13 (by kernel_rfl) (by kernel_rfl)
theorem enters_14 : Sy.Enters Try.prog 14 := enters_fn Try.func14 (by kernel_rfl) (by kernel_rfl)
theorem enters_15 : Sy.Enters Try.prog 15 := enters_fn Try.func15 (by kernel_rfl) (by kernel_rfl)
theorem enters_16 : Sy.Enters Try.prog 16 := enters_fn Try.func16 (by kernel_rfl) (by kernel_rfl)
theorem enters_17 : Sy.Enters Try.prog 17 := enters_fn Try.func17 (by kernel_rfl) (by kernel_rfl)
theorem enters_18 : Sy.Enters Try.prog 18 := enters_fn Try.func18 (by kernel_rfl) (by kernel_rfl)
theorem enters_19 : Sy.Enters Try.prog 19 := enters_fn Try.func19 (by kernel_rfl) (by kernel_rfl)
theorem enters_20 : Sy.Enters Try.prog 20 := enters_fn Try.func20 (by kernel_rfl) (by kernel_rfl)
theorem enters_21 : Sy.Enters Try.prog 21 := enters_fn Try.func21 (by kernel_rfl) (by kernel_rfl)
theorem enters_22 : Sy.Enters Try.prog 22 := enters_fn Try.func22 (by kernel_rfl) (by kernel_rfl)
theorem enters_23 : Sy.Enters Try.prog 23 := enters_fn Try.func23 (by kernel_rfl) (by kernel_rfl)
theorem enters_24 : Sy.Enters Try.prog 24 := enters_fn Try.func24 (by kernel_rfl) (by kernel_rfl)
theorem enters_25 : Sy.Enters Try.prog 25 := enters_fn Try.func25 (by kernel_rfl) (by kernel_rfl)
theorem enters_26 : Sy.Enters Try.prog 26 := enters_fn Try.func26 (by kernel_rfl) (by kernel_rfl)
theorem enters_27 : Sy.Enters Try.prog 27 := enters_fn Try.func27 (by kernel_rfl) (by kernel_rfl)
theorem enters_28 : Sy.Enters Try.prog 28 := enters_fn Try.func28 (by kernel_rfl) (by kernel_rfl)
theorem enters_29 : Sy.Enters Try.prog 29 := enters_fn Try.func29 (by kernel_rfl) (by kernel_rfl)
theorem enters_30 : Sy.Enters Try.prog 30 := enters_fn Try.func30 (by kernel_rfl) (by kernel_rfl)
theorem enters_31 : Sy.Enters Try.prog 31 := enters_fn Try.func31 (by kernel_rfl) (by kernel_rfl)
theorem enters_32 : Sy.Enters Try.prog 32 := enters_fn Try.func32 (by kernel_rfl) (by kernel_rfl)
theorem enters_33 : Sy.Enters Try.prog 33 := enters_fn Try.func33 (by kernel_rfl) (by kernel_rfl)
theorem enters_34 : Sy.Enters Try.prog 34 := enters_fn Try.func34 (by kernel_rfl) (by kernel_rfl)
theorem enters_35 : Sy.Enters Try.prog 35 := enters_fn Try.func35 (by kernel_rfl) (by kernel_rfl)
theorem enters_36 : Sy.Enters Try.prog 36 := enters_fn Try.func36 (by kernel_rfl) (by kernel_rfl)
theorem enters_37 : Sy.Enters Try.prog 37 := enters_fn Try.func37 (by kernel_rfl) (by kernel_rfl)
theorem enters_38 : Sy.Enters Try.prog 38 := enters_fn Try.func38 (by kernel_rfl) (by kernel_rfl)
theorem enters_39 : Sy.Enters Try.prog 39 := enters_fn Try.func39 (by kernel_rfl) (by kernel_rfl)
theorem enters_40 : Sy.Enters Try.prog 40 := enters_fn Try.func40 (by kernel_rfl) (by kernel_rfl)
theorem enters_41 : Sy.Enters Try.prog 41 := enters_fn Try.func41 (by kernel_rfl) (by kernel_rfl)
theorem enters_42 : Sy.Enters Try.prog 42 := enters_fn Try.func42 (by kernel_rfl) (by kernel_rfl)
theorem enters_43 : Sy.Enters Try.prog 43 := enters_fn Try.func43 (by kernel_rfl) (by kernel_rfl)
theorem enters_44 : Sy.Enters Try.prog 44 := enters_fn Try.func44 (by kernel_rfl) (by kernel_rfl)
theorem enters_45 : Sy.Enters Try.prog 45 := enters_fn Try.func45 (by kernel_rfl) (by kernel_rfl)
theorem enters_46 : Sy.Enters Try.prog 46 := enters_fn Try.func46 (by kernel_rfl) (by kernel_rfl)
theorem enters_47 : Sy.Enters Try.prog 47 := enters_fn Try.func47 (by kernel_rfl) (by kernel_rfl)
theorem enters_48 : Sy.Enters Try.prog 48 := enters_fn Try.func48 (by kernel_rfl) (by kernel_rfl)
theorem enters_49 : Sy.Enters Try.prog 49 := enters_fn Try.func49 (by kernel_rfl) (by kernel_rfl)
theorem enters_53 : Sy.Enters Try.prog 53 := enters_fn Try.func53 (by kernel_rfl) (by kernel_rfl)
theorem enters_54 : Sy.Enters Try.prog 54 := enters_fn Try.func54 (by kernel_rfl) (by kernel_rfl)
end Go.SyP
