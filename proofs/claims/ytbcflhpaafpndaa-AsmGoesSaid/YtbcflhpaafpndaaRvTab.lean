/- The table of the machine's instructions: as plain data, and as the program's and the reference's rows. -/
import Derived.Test.YtbcflhpaafpndaaBits
import Derived.Test.YtbcflhpaafpndaaKit
namespace Go.Proofs.Ytbcflhpaafpndaa
open Go.RowKit
set_option linter.unusedVariables false

namespace rv
structure Row where
  name : ByteArray
  form : ByteArray
  a : Int
  b : Int
  c : Int
/-- the row of an operation; none: the empty row -/
def row : Nat → Row
  | 1 => ⟨⟨#[108, 117, 105]⟩, ⟨#[85]⟩, 55, 0, 0⟩
  | 2 => ⟨⟨#[97, 117, 105, 112, 99]⟩, ⟨#[85]⟩, 23, 0, 0⟩
  | 3 => ⟨⟨#[106, 97, 108]⟩, ⟨#[74]⟩, 111, 0, 0⟩
  | 4 => ⟨⟨#[106, 97, 108, 114]⟩, ⟨#[73]⟩, 103, 0, 0⟩
  | 5 => ⟨⟨#[98, 101, 113]⟩, ⟨#[66]⟩, 99, 0, 0⟩
  | 6 => ⟨⟨#[98, 110, 101]⟩, ⟨#[66]⟩, 99, 1, 0⟩
  | 7 => ⟨⟨#[98, 108, 116]⟩, ⟨#[66]⟩, 99, 4, 0⟩
  | 8 => ⟨⟨#[98, 103, 101]⟩, ⟨#[66]⟩, 99, 5, 0⟩
  | 9 => ⟨⟨#[98, 108, 116, 117]⟩, ⟨#[66]⟩, 99, 6, 0⟩
  | 10 => ⟨⟨#[98, 103, 101, 117]⟩, ⟨#[66]⟩, 99, 7, 0⟩
  | 11 => ⟨⟨#[108, 98]⟩, ⟨#[73]⟩, 3, 0, 0⟩
  | 12 => ⟨⟨#[108, 104]⟩, ⟨#[73]⟩, 3, 1, 0⟩
  | 13 => ⟨⟨#[108, 119]⟩, ⟨#[73]⟩, 3, 2, 0⟩
  | 14 => ⟨⟨#[108, 100]⟩, ⟨#[73]⟩, 3, 3, 0⟩
  | 15 => ⟨⟨#[108, 98, 117]⟩, ⟨#[73]⟩, 3, 4, 0⟩
  | 16 => ⟨⟨#[108, 104, 117]⟩, ⟨#[73]⟩, 3, 5, 0⟩
  | 17 => ⟨⟨#[108, 119, 117]⟩, ⟨#[73]⟩, 3, 6, 0⟩
  | 18 => ⟨⟨#[115, 98]⟩, ⟨#[83]⟩, 35, 0, 0⟩
  | 19 => ⟨⟨#[115, 104]⟩, ⟨#[83]⟩, 35, 1, 0⟩
  | 20 => ⟨⟨#[115, 119]⟩, ⟨#[83]⟩, 35, 2, 0⟩
  | 21 => ⟨⟨#[115, 100]⟩, ⟨#[83]⟩, 35, 3, 0⟩
  | 22 => ⟨⟨#[97, 100, 100, 105]⟩, ⟨#[73]⟩, 19, 0, 0⟩
  | 23 => ⟨⟨#[115, 108, 116, 105]⟩, ⟨#[73]⟩, 19, 2, 0⟩
  | 24 => ⟨⟨#[115, 108, 116, 105, 117]⟩, ⟨#[73]⟩, 19, 3, 0⟩
  | 25 => ⟨⟨#[120, 111, 114, 105]⟩, ⟨#[73]⟩, 19, 4, 0⟩
  | 26 => ⟨⟨#[111, 114, 105]⟩, ⟨#[73]⟩, 19, 6, 0⟩
  | 27 => ⟨⟨#[97, 110, 100, 105]⟩, ⟨#[73]⟩, 19, 7, 0⟩
  | 28 => ⟨⟨#[115, 108, 108, 105]⟩, ⟨#[88]⟩, 19, 1, 0⟩
  | 29 => ⟨⟨#[115, 114, 108, 105]⟩, ⟨#[88]⟩, 19, 5, 0⟩
  | 30 => ⟨⟨#[115, 114, 97, 105]⟩, ⟨#[88]⟩, 19, 5, 16⟩
  | 31 => ⟨⟨#[97, 100, 100, 105, 119]⟩, ⟨#[73]⟩, 27, 0, 0⟩
  | 32 => ⟨⟨#[115, 108, 108, 105, 119]⟩, ⟨#[89]⟩, 27, 1, 0⟩
  | 33 => ⟨⟨#[115, 114, 108, 105, 119]⟩, ⟨#[89]⟩, 27, 5, 0⟩
  | 34 => ⟨⟨#[115, 114, 97, 105, 119]⟩, ⟨#[89]⟩, 27, 5, 32⟩
  | 35 => ⟨⟨#[97, 100, 100]⟩, ⟨#[82]⟩, 51, 0, 0⟩
  | 36 => ⟨⟨#[115, 117, 98]⟩, ⟨#[82]⟩, 51, 0, 32⟩
  | 37 => ⟨⟨#[115, 108, 108]⟩, ⟨#[82]⟩, 51, 1, 0⟩
  | 38 => ⟨⟨#[115, 108, 116]⟩, ⟨#[82]⟩, 51, 2, 0⟩
  | 39 => ⟨⟨#[115, 108, 116, 117]⟩, ⟨#[82]⟩, 51, 3, 0⟩
  | 40 => ⟨⟨#[120, 111, 114]⟩, ⟨#[82]⟩, 51, 4, 0⟩
  | 41 => ⟨⟨#[115, 114, 108]⟩, ⟨#[82]⟩, 51, 5, 0⟩
  | 42 => ⟨⟨#[115, 114, 97]⟩, ⟨#[82]⟩, 51, 5, 32⟩
  | 43 => ⟨⟨#[111, 114]⟩, ⟨#[82]⟩, 51, 6, 0⟩
  | 44 => ⟨⟨#[97, 110, 100]⟩, ⟨#[82]⟩, 51, 7, 0⟩
  | 45 => ⟨⟨#[97, 100, 100, 119]⟩, ⟨#[82]⟩, 59, 0, 0⟩
  | 46 => ⟨⟨#[115, 117, 98, 119]⟩, ⟨#[82]⟩, 59, 0, 32⟩
  | 47 => ⟨⟨#[115, 108, 108, 119]⟩, ⟨#[82]⟩, 59, 1, 0⟩
  | 48 => ⟨⟨#[115, 114, 108, 119]⟩, ⟨#[82]⟩, 59, 5, 0⟩
  | 49 => ⟨⟨#[115, 114, 97, 119]⟩, ⟨#[82]⟩, 59, 5, 32⟩
  | 50 => ⟨⟨#[109, 117, 108]⟩, ⟨#[82]⟩, 51, 0, 1⟩
  | 51 => ⟨⟨#[109, 117, 108, 104]⟩, ⟨#[82]⟩, 51, 1, 1⟩
  | 52 => ⟨⟨#[109, 117, 108, 104, 115, 117]⟩, ⟨#[82]⟩, 51, 2, 1⟩
  | 53 => ⟨⟨#[109, 117, 108, 104, 117]⟩, ⟨#[82]⟩, 51, 3, 1⟩
  | 54 => ⟨⟨#[100, 105, 118]⟩, ⟨#[82]⟩, 51, 4, 1⟩
  | 55 => ⟨⟨#[100, 105, 118, 117]⟩, ⟨#[82]⟩, 51, 5, 1⟩
  | 56 => ⟨⟨#[114, 101, 109]⟩, ⟨#[82]⟩, 51, 6, 1⟩
  | 57 => ⟨⟨#[114, 101, 109, 117]⟩, ⟨#[82]⟩, 51, 7, 1⟩
  | 58 => ⟨⟨#[109, 117, 108, 119]⟩, ⟨#[82]⟩, 59, 0, 1⟩
  | 59 => ⟨⟨#[100, 105, 118, 119]⟩, ⟨#[82]⟩, 59, 4, 1⟩
  | 60 => ⟨⟨#[100, 105, 118, 117, 119]⟩, ⟨#[82]⟩, 59, 5, 1⟩
  | 61 => ⟨⟨#[114, 101, 109, 119]⟩, ⟨#[82]⟩, 59, 6, 1⟩
  | 62 => ⟨⟨#[114, 101, 109, 117, 119]⟩, ⟨#[82]⟩, 59, 7, 1⟩
  | 63 => ⟨⟨#[101, 99, 97, 108, 108]⟩, ⟨#[69]⟩, 115, 0, 0⟩
  | _ => ⟨⟨#[]⟩, ⟨#[]⟩, 0, 0, 0⟩
/-- a row's cells -/
def cells (r : Row) : Array Value := #[.string r.name, .string r.form, .int .u32 r.a, .int .u32 r.b, .int .u32 r.c]
end rv
def rowsArr : Array Value := #[.string ⟨#[]⟩, .string ⟨#[]⟩, .int .u32 0, .int .u32 0, .int .u32 0, .string ⟨#[108, 117, 105]⟩, .string ⟨#[85]⟩, .int .u32 55, .int .u32 0, .int .u32 0, .string ⟨#[97, 117, 105, 112, 99]⟩, .string ⟨#[85]⟩, .int .u32 23, .int .u32 0, .int .u32 0, .string ⟨#[106, 97, 108]⟩, .string ⟨#[74]⟩, .int .u32 111, .int .u32 0, .int .u32 0, .string ⟨#[106, 97, 108, 114]⟩, .string ⟨#[73]⟩, .int .u32 103, .int .u32 0, .int .u32 0, .string ⟨#[98, 101, 113]⟩, .string ⟨#[66]⟩, .int .u32 99, .int .u32 0, .int .u32 0, .string ⟨#[98, 110, 101]⟩, .string ⟨#[66]⟩, .int .u32 99, .int .u32 1, .int .u32 0, .string ⟨#[98, 108, 116]⟩, .string ⟨#[66]⟩, .int .u32 99, .int .u32 4, .int .u32 0, .string ⟨#[98, 103, 101]⟩, .string ⟨#[66]⟩, .int .u32 99, .int .u32 5, .int .u32 0, .string ⟨#[98, 108, 116, 117]⟩, .string ⟨#[66]⟩, .int .u32 99, .int .u32 6, .int .u32 0, .string ⟨#[98, 103, 101, 117]⟩, .string ⟨#[66]⟩, .int .u32 99, .int .u32 7, .int .u32 0, .string ⟨#[108, 98]⟩, .string ⟨#[73]⟩, .int .u32 3, .int .u32 0, .int .u32 0, .string ⟨#[108, 104]⟩, .string ⟨#[73]⟩, .int .u32 3, .int .u32 1, .int .u32 0, .string ⟨#[108, 119]⟩, .string ⟨#[73]⟩, .int .u32 3, .int .u32 2, .int .u32 0, .string ⟨#[108, 100]⟩, .string ⟨#[73]⟩, .int .u32 3, .int .u32 3, .int .u32 0, .string ⟨#[108, 98, 117]⟩, .string ⟨#[73]⟩, .int .u32 3, .int .u32 4, .int .u32 0, .string ⟨#[108, 104, 117]⟩, .string ⟨#[73]⟩, .int .u32 3, .int .u32 5, .int .u32 0, .string ⟨#[108, 119, 117]⟩, .string ⟨#[73]⟩, .int .u32 3, .int .u32 6, .int .u32 0, .string ⟨#[115, 98]⟩, .string ⟨#[83]⟩, .int .u32 35, .int .u32 0, .int .u32 0, .string ⟨#[115, 104]⟩, .string ⟨#[83]⟩, .int .u32 35, .int .u32 1, .int .u32 0, .string ⟨#[115, 119]⟩, .string ⟨#[83]⟩, .int .u32 35, .int .u32 2, .int .u32 0, .string ⟨#[115, 100]⟩, .string ⟨#[83]⟩, .int .u32 35, .int .u32 3, .int .u32 0, .string ⟨#[97, 100, 100, 105]⟩, .string ⟨#[73]⟩, .int .u32 19, .int .u32 0, .int .u32 0, .string ⟨#[115, 108, 116, 105]⟩, .string ⟨#[73]⟩, .int .u32 19, .int .u32 2, .int .u32 0, .string ⟨#[115, 108, 116, 105, 117]⟩, .string ⟨#[73]⟩, .int .u32 19, .int .u32 3, .int .u32 0, .string ⟨#[120, 111, 114, 105]⟩, .string ⟨#[73]⟩, .int .u32 19, .int .u32 4, .int .u32 0, .string ⟨#[111, 114, 105]⟩, .string ⟨#[73]⟩, .int .u32 19, .int .u32 6, .int .u32 0, .string ⟨#[97, 110, 100, 105]⟩, .string ⟨#[73]⟩, .int .u32 19, .int .u32 7, .int .u32 0, .string ⟨#[115, 108, 108, 105]⟩, .string ⟨#[88]⟩, .int .u32 19, .int .u32 1, .int .u32 0, .string ⟨#[115, 114, 108, 105]⟩, .string ⟨#[88]⟩, .int .u32 19, .int .u32 5, .int .u32 0, .string ⟨#[115, 114, 97, 105]⟩, .string ⟨#[88]⟩, .int .u32 19, .int .u32 5, .int .u32 16, .string ⟨#[97, 100, 100, 105, 119]⟩, .string ⟨#[73]⟩, .int .u32 27, .int .u32 0, .int .u32 0, .string ⟨#[115, 108, 108, 105, 119]⟩, .string ⟨#[89]⟩, .int .u32 27, .int .u32 1, .int .u32 0, .string ⟨#[115, 114, 108, 105, 119]⟩, .string ⟨#[89]⟩, .int .u32 27, .int .u32 5, .int .u32 0, .string ⟨#[115, 114, 97, 105, 119]⟩, .string ⟨#[89]⟩, .int .u32 27, .int .u32 5, .int .u32 32, .string ⟨#[97, 100, 100]⟩, .string ⟨#[82]⟩, .int .u32 51, .int .u32 0, .int .u32 0, .string ⟨#[115, 117, 98]⟩, .string ⟨#[82]⟩, .int .u32 51, .int .u32 0, .int .u32 32, .string ⟨#[115, 108, 108]⟩, .string ⟨#[82]⟩, .int .u32 51, .int .u32 1, .int .u32 0, .string ⟨#[115, 108, 116]⟩, .string ⟨#[82]⟩, .int .u32 51, .int .u32 2, .int .u32 0, .string ⟨#[115, 108, 116, 117]⟩, .string ⟨#[82]⟩, .int .u32 51, .int .u32 3, .int .u32 0, .string ⟨#[120, 111, 114]⟩, .string ⟨#[82]⟩, .int .u32 51, .int .u32 4, .int .u32 0, .string ⟨#[115, 114, 108]⟩, .string ⟨#[82]⟩, .int .u32 51, .int .u32 5, .int .u32 0, .string ⟨#[115, 114, 97]⟩, .string ⟨#[82]⟩, .int .u32 51, .int .u32 5, .int .u32 32, .string ⟨#[111, 114]⟩, .string ⟨#[82]⟩, .int .u32 51, .int .u32 6, .int .u32 0, .string ⟨#[97, 110, 100]⟩, .string ⟨#[82]⟩, .int .u32 51, .int .u32 7, .int .u32 0, .string ⟨#[97, 100, 100, 119]⟩, .string ⟨#[82]⟩, .int .u32 59, .int .u32 0, .int .u32 0, .string ⟨#[115, 117, 98, 119]⟩, .string ⟨#[82]⟩, .int .u32 59, .int .u32 0, .int .u32 32, .string ⟨#[115, 108, 108, 119]⟩, .string ⟨#[82]⟩, .int .u32 59, .int .u32 1, .int .u32 0, .string ⟨#[115, 114, 108, 119]⟩, .string ⟨#[82]⟩, .int .u32 59, .int .u32 5, .int .u32 0, .string ⟨#[115, 114, 97, 119]⟩, .string ⟨#[82]⟩, .int .u32 59, .int .u32 5, .int .u32 32, .string ⟨#[109, 117, 108]⟩, .string ⟨#[82]⟩, .int .u32 51, .int .u32 0, .int .u32 1, .string ⟨#[109, 117, 108, 104]⟩, .string ⟨#[82]⟩, .int .u32 51, .int .u32 1, .int .u32 1, .string ⟨#[109, 117, 108, 104, 115, 117]⟩, .string ⟨#[82]⟩, .int .u32 51, .int .u32 2, .int .u32 1, .string ⟨#[109, 117, 108, 104, 117]⟩, .string ⟨#[82]⟩, .int .u32 51, .int .u32 3, .int .u32 1, .string ⟨#[100, 105, 118]⟩, .string ⟨#[82]⟩, .int .u32 51, .int .u32 4, .int .u32 1, .string ⟨#[100, 105, 118, 117]⟩, .string ⟨#[82]⟩, .int .u32 51, .int .u32 5, .int .u32 1, .string ⟨#[114, 101, 109]⟩, .string ⟨#[82]⟩, .int .u32 51, .int .u32 6, .int .u32 1, .string ⟨#[114, 101, 109, 117]⟩, .string ⟨#[82]⟩, .int .u32 51, .int .u32 7, .int .u32 1, .string ⟨#[109, 117, 108, 119]⟩, .string ⟨#[82]⟩, .int .u32 59, .int .u32 0, .int .u32 1, .string ⟨#[100, 105, 118, 119]⟩, .string ⟨#[82]⟩, .int .u32 59, .int .u32 4, .int .u32 1, .string ⟨#[100, 105, 118, 117, 119]⟩, .string ⟨#[82]⟩, .int .u32 59, .int .u32 5, .int .u32 1, .string ⟨#[114, 101, 109, 119]⟩, .string ⟨#[82]⟩, .int .u32 59, .int .u32 6, .int .u32 1, .string ⟨#[114, 101, 109, 117, 119]⟩, .string ⟨#[82]⟩, .int .u32 59, .int .u32 7, .int .u32 1, .string ⟨#[101, 99, 97, 108, 108]⟩, .string ⟨#[69]⟩, .int .u32 115, .int .u32 0, .int .u32 0]
def zeroArr : Array Value := #[.string ⟨#[]⟩, .string ⟨#[]⟩, .int .u32 0, .int .u32 0, .int .u32 0, .string ⟨#[]⟩, .string ⟨#[]⟩, .int .u32 0, .int .u32 0, .int .u32 0, .string ⟨#[]⟩, .string ⟨#[]⟩, .int .u32 0, .int .u32 0, .int .u32 0, .string ⟨#[]⟩, .string ⟨#[]⟩, .int .u32 0, .int .u32 0, .int .u32 0, .string ⟨#[]⟩, .string ⟨#[]⟩, .int .u32 0, .int .u32 0, .int .u32 0, .string ⟨#[]⟩, .string ⟨#[]⟩, .int .u32 0, .int .u32 0, .int .u32 0, .string ⟨#[]⟩, .string ⟨#[]⟩, .int .u32 0, .int .u32 0, .int .u32 0, .string ⟨#[]⟩, .string ⟨#[]⟩, .int .u32 0, .int .u32 0, .int .u32 0, .string ⟨#[]⟩, .string ⟨#[]⟩, .int .u32 0, .int .u32 0, .int .u32 0, .string ⟨#[]⟩, .string ⟨#[]⟩, .int .u32 0, .int .u32 0, .int .u32 0, .string ⟨#[]⟩, .string ⟨#[]⟩, .int .u32 0, .int .u32 0, .int .u32 0, .string ⟨#[]⟩, .string ⟨#[]⟩, .int .u32 0, .int .u32 0, .int .u32 0, .string ⟨#[]⟩, .string ⟨#[]⟩, .int .u32 0, .int .u32 0, .int .u32 0, .string ⟨#[]⟩, .string ⟨#[]⟩, .int .u32 0, .int .u32 0, .int .u32 0, .string ⟨#[]⟩, .string ⟨#[]⟩, .int .u32 0, .int .u32 0, .int .u32 0, .string ⟨#[]⟩, .string ⟨#[]⟩, .int .u32 0, .int .u32 0, .int .u32 0, .string ⟨#[]⟩, .string ⟨#[]⟩, .int .u32 0, .int .u32 0, .int .u32 0, .string ⟨#[]⟩, .string ⟨#[]⟩, .int .u32 0, .int .u32 0, .int .u32 0, .string ⟨#[]⟩, .string ⟨#[]⟩, .int .u32 0, .int .u32 0, .int .u32 0, .string ⟨#[]⟩, .string ⟨#[]⟩, .int .u32 0, .int .u32 0, .int .u32 0, .string ⟨#[]⟩, .string ⟨#[]⟩, .int .u32 0, .int .u32 0, .int .u32 0, .string ⟨#[]⟩, .string ⟨#[]⟩, .int .u32 0, .int .u32 0, .int .u32 0, .string ⟨#[]⟩, .string ⟨#[]⟩, .int .u32 0, .int .u32 0, .int .u32 0, .string ⟨#[]⟩, .string ⟨#[]⟩, .int .u32 0, .int .u32 0, .int .u32 0, .string ⟨#[]⟩, .string ⟨#[]⟩, .int .u32 0, .int .u32 0, .int .u32 0, .string ⟨#[]⟩, .string ⟨#[]⟩, .int .u32 0, .int .u32 0, .int .u32 0, .string ⟨#[]⟩, .string ⟨#[]⟩, .int .u32 0, .int .u32 0, .int .u32 0, .string ⟨#[]⟩, .string ⟨#[]⟩, .int .u32 0, .int .u32 0, .int .u32 0, .string ⟨#[]⟩, .string ⟨#[]⟩, .int .u32 0, .int .u32 0, .int .u32 0, .string ⟨#[]⟩, .string ⟨#[]⟩, .int .u32 0, .int .u32 0, .int .u32 0, .string ⟨#[]⟩, .string ⟨#[]⟩, .int .u32 0, .int .u32 0, .int .u32 0, .string ⟨#[]⟩, .string ⟨#[]⟩, .int .u32 0, .int .u32 0, .int .u32 0, .string ⟨#[]⟩, .string ⟨#[]⟩, .int .u32 0, .int .u32 0, .int .u32 0, .string ⟨#[]⟩, .string ⟨#[]⟩, .int .u32 0, .int .u32 0, .int .u32 0, .string ⟨#[]⟩, .string ⟨#[]⟩, .int .u32 0, .int .u32 0, .int .u32 0, .string ⟨#[]⟩, .string ⟨#[]⟩, .int .u32 0, .int .u32 0, .int .u32 0, .string ⟨#[]⟩, .string ⟨#[]⟩, .int .u32 0, .int .u32 0, .int .u32 0, .string ⟨#[]⟩, .string ⟨#[]⟩, .int .u32 0, .int .u32 0, .int .u32 0, .string ⟨#[]⟩, .string ⟨#[]⟩, .int .u32 0, .int .u32 0, .int .u32 0, .string ⟨#[]⟩, .string ⟨#[]⟩, .int .u32 0, .int .u32 0, .int .u32 0, .string ⟨#[]⟩, .string ⟨#[]⟩, .int .u32 0, .int .u32 0, .int .u32 0, .string ⟨#[]⟩, .string ⟨#[]⟩, .int .u32 0, .int .u32 0, .int .u32 0, .string ⟨#[]⟩, .string ⟨#[]⟩, .int .u32 0, .int .u32 0, .int .u32 0, .string ⟨#[]⟩, .string ⟨#[]⟩, .int .u32 0, .int .u32 0, .int .u32 0, .string ⟨#[]⟩, .string ⟨#[]⟩, .int .u32 0, .int .u32 0, .int .u32 0, .string ⟨#[]⟩, .string ⟨#[]⟩, .int .u32 0, .int .u32 0, .int .u32 0, .string ⟨#[]⟩, .string ⟨#[]⟩, .int .u32 0, .int .u32 0, .int .u32 0, .string ⟨#[]⟩, .string ⟨#[]⟩, .int .u32 0, .int .u32 0, .int .u32 0, .string ⟨#[]⟩, .string ⟨#[]⟩, .int .u32 0, .int .u32 0, .int .u32 0, .string ⟨#[]⟩, .string ⟨#[]⟩, .int .u32 0, .int .u32 0, .int .u32 0, .string ⟨#[]⟩, .string ⟨#[]⟩, .int .u32 0, .int .u32 0, .int .u32 0, .string ⟨#[]⟩, .string ⟨#[]⟩, .int .u32 0, .int .u32 0, .int .u32 0, .string ⟨#[]⟩, .string ⟨#[]⟩, .int .u32 0, .int .u32 0, .int .u32 0, .string ⟨#[]⟩, .string ⟨#[]⟩, .int .u32 0, .int .u32 0, .int .u32 0, .string ⟨#[]⟩, .string ⟨#[]⟩, .int .u32 0, .int .u32 0, .int .u32 0, .string ⟨#[]⟩, .string ⟨#[]⟩, .int .u32 0, .int .u32 0, .int .u32 0, .string ⟨#[]⟩, .string ⟨#[]⟩, .int .u32 0, .int .u32 0, .int .u32 0, .string ⟨#[]⟩, .string ⟨#[]⟩, .int .u32 0, .int .u32 0, .int .u32 0, .string ⟨#[]⟩, .string ⟨#[]⟩, .int .u32 0, .int .u32 0, .int .u32 0, .string ⟨#[]⟩, .string ⟨#[]⟩, .int .u32 0, .int .u32 0, .int .u32 0, .string ⟨#[]⟩, .string ⟨#[]⟩, .int .u32 0, .int .u32 0, .int .u32 0, .string ⟨#[]⟩, .string ⟨#[]⟩, .int .u32 0, .int .u32 0, .int .u32 0, .string ⟨#[]⟩, .string ⟨#[]⟩, .int .u32 0, .int .u32 0, .int .u32 0, .string ⟨#[]⟩, .string ⟨#[]⟩, .int .u32 0, .int .u32 0, .int .u32 0]
set_option maxRecDepth 100000 in
theorem zeroArr_size : zeroArr.size = 320 := by kernel_rfl
set_option maxRecDepth 100000 in
theorem rowsArr_size : rowsArr.size = 320 := by kernel_rfl
set_option maxRecDepth 100000 in
theorem rowsArr_one : rowsArr.all (·.oneCell') = true := by decide +kernel
namespace rv
theorem cells_size (r : Row) : (cells r).size = 5 := rfl
theorem flat_at (n : Nat) (f : Nat → List Value) (hf : ∀ k, (f k).length = 5) : ((List.range n).flatMap f).length = n * 5 ∧ ∀ k j, k < n → j < 5 → ((List.range n).flatMap f)[k * 5 + j]? = (f k)[j]? := by
  induction n with
  | zero => exact ⟨rfl, fun k j h => by omega⟩
  | succ n ih =>
    rw [List.range_succ, List.flatMap_append, List.flatMap_singleton]
    refine ⟨by rw [List.length_append, ih.1, hf]; omega, fun k j hk hj => ?_⟩
    by_cases h : k < n
    · rw [List.getElem?_append_left (by rw [ih.1]; omega)]
      exact ih.2 k j h hj
    · obtain rfl : k = n := by omega
      rw [List.getElem?_append_right (by rw [ih.1]; omega), ih.1]
      congr 1
      omega
end rv
set_option maxRecDepth 100000 in
theorem rowsArr_flat : rowsArr = ((List.range 64).flatMap fun k => (rv.cells (rv.row k)).toList).toArray := by kernel_rfl
/-- cell j of row k -/
theorem rowsArr_at (k j : Nat) (hk : k < 64) (hj : j < 5) : rowsArr[k * 5 + j]? = (rv.cells (rv.row k))[j]? := by
  rw [rowsArr_flat, List.getElem?_toArray, (rv.flat_at 64 _ (fun _ => rfl)).2 k j hk hj]
  simp
end Go.Proofs.Ytbcflhpaafpndaa
