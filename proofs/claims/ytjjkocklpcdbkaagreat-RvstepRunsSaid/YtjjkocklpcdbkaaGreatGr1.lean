/- The table of the machine's instructions: as plain data, and as the program's and the reference's rows. Laws of this proof's own on single operations, over any program. No program in sight. rows, walked. of: the row of an operation. a row of the table, by value. -/
import Derived.Test.YtjjkocklpcdbkaaGreatBits
import Derived.Test.YtjjkocklpcdbkaaGreatKit
import Derived.Laws.Tables
import Derived.Laws.ResultCell
import Derived.Test.YtjjkocklpcdbkaaGreatRows
import Derived.Handy
namespace Go.Proofs.YtjjkocklpcdbkaaGreat
open Go.RowKit
set_option linter.unusedVariables false
set_option maxRecDepth 100000

namespace rv
structure Row where
  name : ByteArray
  form : ByteArray
  a : Int
  b : Int
  c : Int
/-- the row of an operation; none: the empty row -/
def row : Nat → Row
  | 1 => ⟨⟨#[108, 117, 105]⟩, ⟨#[85]⟩, 55, 0, 0⟩
  | 2 => ⟨⟨#[97, 117, 105, 112, 99]⟩, ⟨#[85]⟩, 23, 0, 0⟩
  | 3 => ⟨⟨#[106, 97, 108]⟩, ⟨#[74]⟩, 111, 0, 0⟩
  | 4 => ⟨⟨#[106, 97, 108, 114]⟩, ⟨#[73]⟩, 103, 0, 0⟩
  | 5 => ⟨⟨#[98, 101, 113]⟩, ⟨#[66]⟩, 99, 0, 0⟩
  | 6 => ⟨⟨#[98, 110, 101]⟩, ⟨#[66]⟩, 99, 1, 0⟩
  | 7 => ⟨⟨#[98, 108, 116]⟩, ⟨#[66]⟩, 99, 4, 0⟩
  | 8 => ⟨⟨#[98, 103, 101]⟩, ⟨#[66]⟩, 99, 5, 0⟩
  | 9 => ⟨⟨#[98, 108, 116, 117]⟩, ⟨#[66]⟩, 99, 6, 0⟩
  | 10 => ⟨⟨#[98, 103, 101, 117]⟩, ⟨#[66]⟩, 99, 7, 0⟩
  | 11 => ⟨⟨#[108, 98]⟩, ⟨#[73]⟩, 3, 0, 0⟩
  | 12 => ⟨⟨#[108, 104]⟩, ⟨#[73]⟩, 3, 1, 0⟩
  | 13 => ⟨⟨#[108, 119]⟩, ⟨#[73]⟩, 3, 2, 0⟩
  | 14 => ⟨⟨#[108, 100]⟩, ⟨#[73]⟩, 3, 3, 0⟩
  | 15 => ⟨⟨#[108, 98, 117]⟩, ⟨#[73]⟩, 3, 4, 0⟩
  | 16 => ⟨⟨#[108, 104, 117]⟩, ⟨#[73]⟩, 3, 5, 0⟩
  | 17 => ⟨⟨#[108, 119, 117]⟩, ⟨#[73]⟩, 3, 6, 0⟩
  | 18 => ⟨⟨#[115, 98]⟩, ⟨#[83]⟩, 35, 0, 0⟩
  | 19 => ⟨⟨#[115, 104]⟩, ⟨#[83]⟩, 35, 1, 0⟩
  | 20 => ⟨⟨#[115, 119]⟩, ⟨#[83]⟩, 35, 2, 0⟩
  | 21 => ⟨⟨#[115, 100]⟩, ⟨#[83]⟩, 35, 3, 0⟩
  | 22 => ⟨⟨#[97, 100, 100, 105]⟩, ⟨#[73]⟩, 19, 0, 0⟩
  | 23 => ⟨⟨#[115, 108, 116, 105]⟩, ⟨#[73]⟩, 19, 2, 0⟩
  | 24 => ⟨⟨#[115, 108, 116, 105, 117]⟩, ⟨#[73]⟩, 19, 3, 0⟩
  | 25 => ⟨⟨#[120, 111, 114, 105]⟩, ⟨#[73]⟩, 19, 4, 0⟩
  | 26 => ⟨⟨#[111, 114, 105]⟩, ⟨#[73]⟩, 19, 6, 0⟩
  | 27 => ⟨⟨#[97, 110, 100, 105]⟩, ⟨#[73]⟩, 19, 7, 0⟩
  | 28 => ⟨⟨#[115, 108, 108, 105]⟩, ⟨#[88]⟩, 19, 1, 0⟩
  | 29 => ⟨⟨#[115, 114, 108, 105]⟩, ⟨#[88]⟩, 19, 5, 0⟩
  | 30 => ⟨⟨#[115, 114, 97, 105]⟩, ⟨#[88]⟩, 19, 5, 16⟩
  | 31 => ⟨⟨#[97, 100, 100, 105, 119]⟩, ⟨#[73]⟩, 27, 0, 0⟩
  | 32 => ⟨⟨#[115, 108, 108, 105, 119]⟩, ⟨#[89]⟩, 27, 1, 0⟩
  | 33 => ⟨⟨#[115, 114, 108, 105, 119]⟩, ⟨#[89]⟩, 27, 5, 0⟩
  | 34 => ⟨⟨#[115, 114, 97, 105, 119]⟩, ⟨#[89]⟩, 27, 5, 32⟩
  | 35 => ⟨⟨#[97, 100, 100]⟩, ⟨#[82]⟩, 51, 0, 0⟩
  | 36 => ⟨⟨#[115, 117, 98]⟩, ⟨#[82]⟩, 51, 0, 32⟩
  | 37 => ⟨⟨#[115, 108, 108]⟩, ⟨#[82]⟩, 51, 1, 0⟩
  | 38 => ⟨⟨#[115, 108, 116]⟩, ⟨#[82]⟩, 51, 2, 0⟩
  | 39 => ⟨⟨#[115, 108, 116, 117]⟩, ⟨#[82]⟩, 51, 3, 0⟩
  | 40 => ⟨⟨#[120, 111, 114]⟩, ⟨#[82]⟩, 51, 4, 0⟩
  | 41 => ⟨⟨#[115, 114, 108]⟩, ⟨#[82]⟩, 51, 5, 0⟩
  | 42 => ⟨⟨#[115, 114, 97]⟩, ⟨#[82]⟩, 51, 5, 32⟩
  | 43 => ⟨⟨#[111, 114]⟩, ⟨#[82]⟩, 51, 6, 0⟩
  | 44 => ⟨⟨#[97, 110, 100]⟩, ⟨#[82]⟩, 51, 7, 0⟩
  | 45 => ⟨⟨#[97, 100, 100, 119]⟩, ⟨#[82]⟩, 59, 0, 0⟩
  | 46 => ⟨⟨#[115, 117, 98, 119]⟩, ⟨#[82]⟩, 59, 0, 32⟩
  | 47 => ⟨⟨#[115, 108, 108, 119]⟩, ⟨#[82]⟩, 59, 1, 0⟩
  | 48 => ⟨⟨#[115, 114, 108, 119]⟩, ⟨#[82]⟩, 59, 5, 0⟩
  | 49 => ⟨⟨#[115, 114, 97, 119]⟩, ⟨#[82]⟩, 59, 5, 32⟩
  | 50 => ⟨⟨#[109, 117, 108]⟩, ⟨#[82]⟩, 51, 0, 1⟩
  | 51 => ⟨⟨#[109, 117, 108, 104]⟩, ⟨#[82]⟩, 51, 1, 1⟩
  | 52 => ⟨⟨#[109, 117, 108, 104, 115, 117]⟩, ⟨#[82]⟩, 51, 2, 1⟩
  | 53 => ⟨⟨#[109, 117, 108, 104, 117]⟩, ⟨#[82]⟩, 51, 3, 1⟩
  | 54 => ⟨⟨#[100, 105, 118]⟩, ⟨#[82]⟩, 51, 4, 1⟩
  | 55 => ⟨⟨#[100, 105, 118, 117]⟩, ⟨#[82]⟩, 51, 5, 1⟩
  | 56 => ⟨⟨#[114, 101, 109]⟩, ⟨#[82]⟩, 51, 6, 1⟩
  | 57 => ⟨⟨#[114, 101, 109, 117]⟩, ⟨#[82]⟩, 51, 7, 1⟩
  | 58 => ⟨⟨#[109, 117, 108, 119]⟩, ⟨#[82]⟩, 59, 0, 1⟩
  | 59 => ⟨⟨#[100, 105, 118, 119]⟩, ⟨#[82]⟩, 59, 4, 1⟩
  | 60 => ⟨⟨#[100, 105, 118, 117, 119]⟩, ⟨#[82]⟩, 59, 5, 1⟩
  | 61 => ⟨⟨#[114, 101, 109, 119]⟩, ⟨#[82]⟩, 59, 6, 1⟩
  | 62 => ⟨⟨#[114, 101, 109, 117, 119]⟩, ⟨#[82]⟩, 59, 7, 1⟩
  | 63 => ⟨⟨#[101, 99, 97, 108, 108]⟩, ⟨#[69]⟩, 115, 0, 0⟩
  | _ => ⟨⟨#[]⟩, ⟨#[]⟩, 0, 0, 0⟩
/-- a row's cells -/
def cells (r : Row) : Array Value := #[.string r.name, .string r.form, .int .u32 r.a, .int .u32 r.b, .int .u32 r.c]
end rv
def rowsArr : Array Value := #[.string ⟨#[]⟩, .string ⟨#[]⟩, .int .u32 0, .int .u32 0, .int .u32 0, .string ⟨#[108, 117, 105]⟩, .string ⟨#[85]⟩, .int .u32 55, .int .u32 0, .int .u32 0, .string ⟨#[97, 117, 105, 112, 99]⟩, .string ⟨#[85]⟩, .int .u32 23, .int .u32 0, .int .u32 0, .string ⟨#[106, 97, 108]⟩, .string ⟨#[74]⟩, .int .u32 111, .int .u32 0, .int .u32 0, .string ⟨#[106, 97, 108, 114]⟩, .string ⟨#[73]⟩, .int .u32 103, .int .u32 0, .int .u32 0, .string ⟨#[98, 101, 113]⟩, .string ⟨#[66]⟩, .int .u32 99, .int .u32 0, .int .u32 0, .string ⟨#[98, 110, 101]⟩, .string ⟨#[66]⟩, .int .u32 99, .int .u32 1, .int .u32 0, .string ⟨#[98, 108, 116]⟩, .string ⟨#[66]⟩, .int .u32 99, .int .u32 4, .int .u32 0, .string ⟨#[98, 103, 101]⟩, .string ⟨#[66]⟩, .int .u32 99, .int .u32 5, .int .u32 0, .string ⟨#[98, 108, 116, 117]⟩, .string ⟨#[66]⟩, .int .u32 99, .int .u32 6, .int .u32 0, .string ⟨#[98, 103, 101, 117]⟩, .string ⟨#[66]⟩, .int .u32 99, .int .u32 7, .int .u32 0, .string ⟨#[108, 98]⟩, .string ⟨#[73]⟩, .int .u32 3, .int .u32 0, .int .u32 0, .string ⟨#[108, 104]⟩, .string ⟨#[73]⟩, .int .u32 3, .int .u32 1, .int .u32 0, .string ⟨#[108, 119]⟩, .string ⟨#[73]⟩, .int .u32 3, .int .u32 2, .int .u32 0, .string ⟨#[108, 100]⟩, .string ⟨#[73]⟩, .int .u32 3, .int .u32 3, .int .u32 0, .string ⟨#[108, 98, 117]⟩, .string ⟨#[73]⟩, .int .u32 3, .int .u32 4, .int .u32 0, .string ⟨#[108, 104, 117]⟩, .string ⟨#[73]⟩, .int .u32 3, .int .u32 5, .int .u32 0, .string ⟨#[108, 119, 117]⟩, .string ⟨#[73]⟩, .int .u32 3, .int .u32 6, .int .u32 0, .string ⟨#[115, 98]⟩, .string ⟨#[83]⟩, .int .u32 35, .int .u32 0, .int .u32 0, .string ⟨#[115, 104]⟩, .string ⟨#[83]⟩, .int .u32 35, .int .u32 1, .int .u32 0, .string ⟨#[115, 119]⟩, .string ⟨#[83]⟩, .int .u32 35, .int .u32 2, .int .u32 0, .string ⟨#[115, 100]⟩, .string ⟨#[83]⟩, .int .u32 35, .int .u32 3, .int .u32 0, .string ⟨#[97, 100, 100, 105]⟩, .string ⟨#[73]⟩, .int .u32 19, .int .u32 0, .int .u32 0, .string ⟨#[115, 108, 116, 105]⟩, .string ⟨#[73]⟩, .int .u32 19, .int .u32 2, .int .u32 0, .string ⟨#[115, 108, 116, 105, 117]⟩, .string ⟨#[73]⟩, .int .u32 19, .int .u32 3, .int .u32 0, .string ⟨#[120, 111, 114, 105]⟩, .string ⟨#[73]⟩, .int .u32 19, .int .u32 4, .int .u32 0, .string ⟨#[111, 114, 105]⟩, .string ⟨#[73]⟩, .int .u32 19, .int .u32 6, .int .u32 0, .string ⟨#[97, 110, 100, 105]⟩, .string ⟨#[73]⟩, .int .u32 19, .int .u32 7, .int .u32 0, .string ⟨#[115, 108, 108, 105]⟩, .string ⟨#[88]⟩, .int .u32 19, .int .u32 1, .int .u32 0, .string ⟨#[115, 114, 108, 105]⟩, .string ⟨#[88]⟩, .int .u32 19, .int .u32 5, .int .u32 0, .string ⟨#[115, 114, 97, 105]⟩, .string ⟨#[88]⟩, .int .u32 19, .int .u32 5, .int .u32 16, .string ⟨#[97, 100, 100, 105, 119]⟩, .string ⟨#[73]⟩, .int .u32 27, .int .u32 0, .int .u32 0, .string ⟨#[115, 108, 108, 105, 119]⟩, .string ⟨#[89]⟩, .int .u32 27, .int .u32 1, .int .u32 0, .string ⟨#[115, 114, 108, 105, 119]⟩, .string ⟨#[89]⟩, .int .u32 27, .int .u32 5, .int .u32 0, .string ⟨#[115, 114, 97, 105, 119]⟩, .string ⟨#[89]⟩, .int .u32 27, .int .u32 5, .int .u32 32, .string ⟨#[97, 100, 100]⟩, .string ⟨#[82]⟩, .int .u32 51, .int .u32 0, .int .u32 0, .string ⟨#[115, 117, 98]⟩, .string ⟨#[82]⟩, .int .u32 51, .int .u32 0, .int .u32 32, .string ⟨#[115, 108, 108]⟩, .string ⟨#[82]⟩, .int .u32 51, .int .u32 1, .int .u32 0, .string ⟨#[115, 108, 116]⟩, .string ⟨#[82]⟩, .int .u32 51, .int .u32 2, .int .u32 0, .string ⟨#[115, 108, 116, 117]⟩, .string ⟨#[82]⟩, .int .u32 51, .int .u32 3, .int .u32 0, .string ⟨#[120, 111, 114]⟩, .string ⟨#[82]⟩, .int .u32 51, .int .u32 4, .int .u32 0, .string ⟨#[115, 114, 108]⟩, .string ⟨#[82]⟩, .int .u32 51, .int .u32 5, .int .u32 0, .string ⟨#[115, 114, 97]⟩, .string ⟨#[82]⟩, .int .u32 51, .int .u32 5, .int .u32 32, .string ⟨#[111, 114]⟩, .string ⟨#[82]⟩, .int .u32 51, .int .u32 6, .int .u32 0, .string ⟨#[97, 110, 100]⟩, .string ⟨#[82]⟩, .int .u32 51, .int .u32 7, .int .u32 0, .string ⟨#[97, 100, 100, 119]⟩, .string ⟨#[82]⟩, .int .u32 59, .int .u32 0, .int .u32 0, .string ⟨#[115, 117, 98, 119]⟩, .string ⟨#[82]⟩, .int .u32 59, .int .u32 0, .int .u32 32, .string ⟨#[115, 108, 108, 119]⟩, .string ⟨#[82]⟩, .int .u32 59, .int .u32 1, .int .u32 0, .string ⟨#[115, 114, 108, 119]⟩, .string ⟨#[82]⟩, .int .u32 59, .int .u32 5, .int .u32 0, .string ⟨#[115, 114, 97, 119]⟩, .string ⟨#[82]⟩, .int .u32 59, .int .u32 5, .int .u32 32, .string ⟨#[109, 117, 108]⟩, .string ⟨#[82]⟩, .int .u32 51, .int .u32 0, .int .u32 1, .string ⟨#[109, 117, 108, 104]⟩, .string ⟨#[82]⟩, .int .u32 51, .int .u32 1, .int .u32 1, .string ⟨#[109, 117, 108, 104, 115, 117]⟩, .string ⟨#[82]⟩, .int .u32 51, .int .u32 2, .int .u32 1, .string ⟨#[109, 117, 108, 104, 117]⟩, .string ⟨#[82]⟩, .int .u32 51, .int .u32 3, .int .u32 1, .string ⟨#[100, 105, 118]⟩, .string ⟨#[82]⟩, .int .u32 51, .int .u32 4, .int .u32 1, .string ⟨#[100, 105, 118, 117]⟩, .string ⟨#[82]⟩, .int .u32 51, .int .u32 5, .int .u32 1, .string ⟨#[114, 101, 109]⟩, .string ⟨#[82]⟩, .int .u32 51, .int .u32 6, .int .u32 1, .string ⟨#[114, 101, 109, 117]⟩, .string ⟨#[82]⟩, .int .u32 51, .int .u32 7, .int .u32 1, .string ⟨#[109, 117, 108, 119]⟩, .string ⟨#[82]⟩, .int .u32 59, .int .u32 0, .int .u32 1, .string ⟨#[100, 105, 118, 119]⟩, .string ⟨#[82]⟩, .int .u32 59, .int .u32 4, .int .u32 1, .string ⟨#[100, 105, 118, 117, 119]⟩, .string ⟨#[82]⟩, .int .u32 59, .int .u32 5, .int .u32 1, .string ⟨#[114, 101, 109, 119]⟩, .string ⟨#[82]⟩, .int .u32 59, .int .u32 6, .int .u32 1, .string ⟨#[114, 101, 109, 117, 119]⟩, .string ⟨#[82]⟩, .int .u32 59, .int .u32 7, .int .u32 1, .string ⟨#[101, 99, 97, 108, 108]⟩, .string ⟨#[69]⟩, .int .u32 115, .int .u32 0, .int .u32 0]
def zeroArr : Array Value := #[.string ⟨#[]⟩, .string ⟨#[]⟩, .int .u32 0, .int .u32 0, .int .u32 0, .string ⟨#[]⟩, .string ⟨#[]⟩, .int .u32 0, .int .u32 0, .int .u32 0, .string ⟨#[]⟩, .string ⟨#[]⟩, .int .u32 0, .int .u32 0, .int .u32 0, .string ⟨#[]⟩, .string ⟨#[]⟩, .int .u32 0, .int .u32 0, .int .u32 0, .string ⟨#[]⟩, .string ⟨#[]⟩, .int .u32 0, .int .u32 0, .int .u32 0, .string ⟨#[]⟩, .string ⟨#[]⟩, .int .u32 0, .int .u32 0, .int .u32 0, .string ⟨#[]⟩, .string ⟨#[]⟩, .int .u32 0, .int .u32 0, .int .u32 0, .string ⟨#[]⟩, .string ⟨#[]⟩, .int .u32 0, .int .u32 0, .int .u32 0, .string ⟨#[]⟩, .string ⟨#[]⟩, .int .u32 0, .int .u32 0, .int .u32 0, .string ⟨#[]⟩, .string ⟨#[]⟩, .int .u32 0, .int .u32 0, .int .u32 0, .string ⟨#[]⟩, .string ⟨#[]⟩, .int .u32 0, .int .u32 0, .int .u32 0, .string ⟨#[]⟩, .string ⟨#[]⟩, .int .u32 0, .int .u32 0, .int .u32 0, .string ⟨#[]⟩, .string ⟨#[]⟩, .int .u32 0, .int .u32 0, .int .u32 0, .string ⟨#[]⟩, .string ⟨#[]⟩, .int .u32 0, .int .u32 0, .int .u32 0, .string ⟨#[]⟩, .string ⟨#[]⟩, .int .u32 0, .int .u32 0, .int .u32 0, .string ⟨#[]⟩, .string ⟨#[]⟩, .int .u32 0, .int .u32 0, .int .u32 0, .string ⟨#[]⟩, .string ⟨#[]⟩, .int .u32 0, .int .u32 0, .int .u32 0, .string ⟨#[]⟩, .string ⟨#[]⟩, .int .u32 0, .int .u32 0, .int .u32 0, .string ⟨#[]⟩, .string ⟨#[]⟩, .int .u32 0, .int .u32 0, .int .u32 0, .string ⟨#[]⟩, .string ⟨#[]⟩, .int .u32 0, .int .u32 0, .int .u32 0, .string ⟨#[]⟩, .string ⟨#[]⟩, .int .u32 0, .int .u32 0, .int .u32 0, .string ⟨#[]⟩, .string ⟨#[]⟩, .int .u32 0, .int .u32 0, .int .u32 0, .string ⟨#[]⟩, .string ⟨#[]⟩, .int .u32 0, .int .u32 0, .int .u32 0, .string ⟨#[]⟩, .string ⟨#[]⟩, .int .u32 0, .int .u32 0, .int .u32 0, .string ⟨#[]⟩, .string ⟨#[]⟩, .int .u32 0, .int .u32 0, .int .u32 0, .string ⟨#[]⟩, .string ⟨#[]⟩, .int .u32 0, .int .u32 0, .int .u32 0, .string ⟨#[]⟩, .string ⟨#[]⟩, .int .u32 0, .int .u32 0, .int .u32 0, .string ⟨#[]⟩, .string ⟨#[]⟩, .int .u32 0, .int .u32 0, .int .u32 0, .string ⟨#[]⟩, .string ⟨#[]⟩, .int .u32 0, .int .u32 0, .int .u32 0, .string ⟨#[]⟩, .string ⟨#[]⟩, .int .u32 0, .int .u32 0, .int .u32 0, .string ⟨#[]⟩, .string ⟨#[]⟩, .int .u32 0, .int .u32 0, .int .u32 0, .string ⟨#[]⟩, .string ⟨#[]⟩, .int .u32 0, .int .u32 0, .int .u32 0, .string ⟨#[]⟩, .string ⟨#[]⟩, .int .u32 0, .int .u32 0, .int .u32 0, .string ⟨#[]⟩, .string ⟨#[]⟩, .int .u32 0, .int .u32 0, .int .u32 0, .string ⟨#[]⟩, .string ⟨#[]⟩, .int .u32 0, .int .u32 0, .int .u32 0, .string ⟨#[]⟩, .string ⟨#[]⟩, .int .u32 0, .int .u32 0, .int .u32 0, .string ⟨#[]⟩, .string ⟨#[]⟩, .int .u32 0, .int .u32 0, .int .u32 0, .string ⟨#[]⟩, .string ⟨#[]⟩, .int .u32 0, .int .u32 0, .int .u32 0, .string ⟨#[]⟩, .string ⟨#[]⟩, .int .u32 0, .int .u32 0, .int .u32 0, .string ⟨#[]⟩, .string ⟨#[]⟩, .int .u32 0, .int .u32 0, .int .u32 0, .string ⟨#[]⟩, .string ⟨#[]⟩, .int .u32 0, .int .u32 0, .int .u32 0, .string ⟨#[]⟩, .string ⟨#[]⟩, .int .u32 0, .int .u32 0, .int .u32 0, .string ⟨#[]⟩, .string ⟨#[]⟩, .int .u32 0, .int .u32 0, .int .u32 0, .string ⟨#[]⟩, .string ⟨#[]⟩, .int .u32 0, .int .u32 0, .int .u32 0, .string ⟨#[]⟩, .string ⟨#[]⟩, .int .u32 0, .int .u32 0, .int .u32 0, .string ⟨#[]⟩, .string ⟨#[]⟩, .int .u32 0, .int .u32 0, .int .u32 0, .string ⟨#[]⟩, .string ⟨#[]⟩, .int .u32 0, .int .u32 0, .int .u32 0, .string ⟨#[]⟩, .string ⟨#[]⟩, .int .u32 0, .int .u32 0, .int .u32 0, .string ⟨#[]⟩, .string ⟨#[]⟩, .int .u32 0, .int .u32 0, .int .u32 0, .string ⟨#[]⟩, .string ⟨#[]⟩, .int .u32 0, .int .u32 0, .int .u32 0, .string ⟨#[]⟩, .string ⟨#[]⟩, .int .u32 0, .int .u32 0, .int .u32 0, .string ⟨#[]⟩, .string ⟨#[]⟩, .int .u32 0, .int .u32 0, .int .u32 0, .string ⟨#[]⟩, .string ⟨#[]⟩, .int .u32 0, .int .u32 0, .int .u32 0, .string ⟨#[]⟩, .string ⟨#[]⟩, .int .u32 0, .int .u32 0, .int .u32 0, .string ⟨#[]⟩, .string ⟨#[]⟩, .int .u32 0, .int .u32 0, .int .u32 0, .string ⟨#[]⟩, .string ⟨#[]⟩, .int .u32 0, .int .u32 0, .int .u32 0, .string ⟨#[]⟩, .string ⟨#[]⟩, .int .u32 0, .int .u32 0, .int .u32 0, .string ⟨#[]⟩, .string ⟨#[]⟩, .int .u32 0, .int .u32 0, .int .u32 0, .string ⟨#[]⟩, .string ⟨#[]⟩, .int .u32 0, .int .u32 0, .int .u32 0, .string ⟨#[]⟩, .string ⟨#[]⟩, .int .u32 0, .int .u32 0, .int .u32 0, .string ⟨#[]⟩, .string ⟨#[]⟩, .int .u32 0, .int .u32 0, .int .u32 0, .string ⟨#[]⟩, .string ⟨#[]⟩, .int .u32 0, .int .u32 0, .int .u32 0, .string ⟨#[]⟩, .string ⟨#[]⟩, .int .u32 0, .int .u32 0, .int .u32 0, .string ⟨#[]⟩, .string ⟨#[]⟩, .int .u32 0, .int .u32 0, .int .u32 0]
set_option maxRecDepth 100000 in
theorem zeroArr_size : zeroArr.size = 320 := by kernel_rfl
set_option maxRecDepth 100000 in
theorem rowsArr_size : rowsArr.size = 320 := by kernel_rfl
set_option maxRecDepth 100000 in
theorem rowsArr_one : rowsArr.all (·.oneCell') = true := by decide +kernel
namespace rv
theorem cells_size (r : Row) : (cells r).size = 5 := rfl
theorem flat_at (n : Nat) (f : Nat → List Value) (hf : ∀ k, (f k).length = 5) : ((List.range n).flatMap f).length = n * 5 ∧ ∀ k j, k < n → j < 5 → ((List.range n).flatMap f)[k * 5 + j]? = (f k)[j]? := by
  induction n with
  | zero => exact ⟨rfl, fun k j h => by omega⟩
  | succ n ih =>
    rw [List.range_succ, List.flatMap_append, List.flatMap_singleton]
    refine ⟨by rw [List.length_append, ih.1, hf]; omega, fun k j hk hj => ?_⟩
    by_cases h : k < n
    · rw [List.getElem?_append_left (by rw [ih.1]; omega)]
      exact ih.2 k j h hj
    · obtain rfl : k = n := by omega
      rw [List.getElem?_append_right (by rw [ih.1]; omega), ih.1]
      congr 1
      omega
end rv
set_option maxRecDepth 100000 in
theorem rowsArr_flat : rowsArr = ((List.range 64).flatMap fun k => (rv.cells (rv.row k)).toList).toArray := by kernel_rfl
/-- cell j of row k -/
theorem rowsArr_at (k j : Nat) (hk : k < 64) (hj : j < 5) : rowsArr[k * 5 + j]? = (rv.cells (rv.row k))[j]? := by
  rw [rowsArr_flat, List.getElem?_toArray, (rv.flat_at 64 _ (fun _ => rfl)).2 k j hk hj]
  simp
end Go.Proofs.YtjjkocklpcdbkaaGreat
namespace Go.Proofs.YtjjkocklpcdbkaaGreat.kt
open Go.RowKit
variable {P : Program}
/-- a variable of a row type is made -/
theorem wpList_alloc_row {ops : Array Oper} {rest : List Oper} {o : Oper} {a : Act} {w : World} {Q : Exit → Act → World → Prop} (hgd : o.guard = none) (ty : TypeId) (ho : o.op = .alloc ty)
    (z : Array Value) (hz : ∀ w, (zeroValue ty).run P w = .ok (.agg z) w)
    (h : wpList P ops Q rest (a.put o.dst (.pointer (some ⟨w.heap.size, 0, none⟩))) (w.alloc (.cells z ty))) : wpList P ops Q (o :: rest) a w :=
  wpList_plain hgd fun K hK => by
    have := hK _ _ h
    unfold Oper.wp execOp
    simp [ho, hz, Instr.alloc, Result.andThen, Oper.upon]
    exact this
theorem cell_alloc {w : World} {b o : Nat} {v : Value} {x : Obj} (h : w.cell? ⟨b, o, none⟩ = some v) : (w.alloc x).cell? ⟨b, o, none⟩ = some v := ((below_row x).cell (p := ⟨b, o, none⟩) (block_lt_of_cell h)).trans h
theorem cell_set {w : World} {b o g i : Nat} {v u : Value} (h : w.cell? ⟨b, o, none⟩ = some v) (hne : b ≠ g) : (w.setCell ⟨g, i, none⟩ u).cell? ⟨b, o, none⟩ = some v := by
  rw [World.cell?_setCell_other _ _ _ _ (by intro e; cases e; exact hne rfl)]
  exact h
theorem set6 {C : World} {g : Nat} {t : TypeId} {o0 o1 o2 o3 o4 o5 : Value} (h : C.heap[g]? = some (.cells #[o0, o1, o2, o3, o4, o5] t (0, 0))) (v0 v1 v2 v3 v4 v5 : Value) :
    ((((((C.setCell ⟨g, 0, none⟩ v0).setCell ⟨g, 1, none⟩ v1).setCell ⟨g, 2, none⟩ v2).setCell ⟨g, 3, none⟩ v3).setCell ⟨g, 4, none⟩ v4).setCell ⟨g, 5, none⟩ v5).heap[g]? = some (.cells #[v0, v1, v2, v3, v4, v5] t (0, 0)) := by
  rw [heap_setCell_same _ g 5 _ _ _ (heap_setCell_same _ g 4 _ _ _ (heap_setCell_same _ g 3 _ _ _ (heap_setCell_same _ g 2 _ _ _ (heap_setCell_same _ g 1 _ _ _ (heap_setCell_same _ g 0 _ _ _ h)))))]
  rfl
theorem set6_other (C : World) (g k : Nat) (v0 v1 v2 v3 v4 v5 : Value) (hk : k ≠ g) :
    ((((((C.setCell ⟨g, 0, none⟩ v0).setCell ⟨g, 1, none⟩ v1).setCell ⟨g, 2, none⟩ v2).setCell ⟨g, 3, none⟩ v3).setCell ⟨g, 4, none⟩ v4).setCell ⟨g, 5, none⟩ v5).heap[k]? = C.heap[k]? := by
  rw [Below.heap_setCell _ _ _ _ hk, Below.heap_setCell _ _ _ _ hk, Below.heap_setCell _ _ _ _ hk, Below.heap_setCell _ _ _ _ hk, Below.heap_setCell _ _ _ _ hk, Below.heap_setCell _ _ _ _ hk]
theorem cell_drew {w : World} {b o : Nat} {v : Value} (h : w.cell? ⟨b, o, none⟩ = some v) : w.drew.cell? ⟨b, o, none⟩ = some v := h
/-- a result that lies in a variable of a row type, and a second one -/
theorem results_row_tmp {fn : Func} {p u : Tmp} {ty : TypeId} (h : fn.results = #[.cell p ty, .tmp u]) (tmps : Array Value) (w : World) (g : Nat) (t : TypeId) (cs : Array Value) (fr : Nat × Nat) (d : TypeDesc)
    (hp : tmps.getD p undef = .pointer (some ⟨g, 0, none⟩)) (hg : w.heap[g]? = some (.cells cs t fr))
    (hu : P.underlying ty = some d) (hd : (match d with | .struct _ | .array _ _ => true | _ => false) = true) (hi : (P.info? ty).map (·.size) = some cs.size) :
    (results fn tmps).run P w = .ok (.tuple #[.agg cs, tmps.getD u undef]) w := by
  rw [results_cell_tmp h, hp]
  simp [asAddr, Result.andThen, run_loadVar_row w g t ty cs fr d hg hu hd hi]
end Go.Proofs.YtjjkocklpcdbkaaGreat.kt
namespace Go.Proofs.YtjjkocklpcdbkaaGreat
open Go.RowKit
set_option linter.unusedVariables false
set_option maxRecDepth 100000

theorem zeroArr_run (w : World) : (zeroValue 131).run Tryz.prog w = .ok (.agg zeroArr) w := by kernel_rfl
theorem rowsArr_info : (Tryz.prog.info? 131).map (·.size) = some 320 := by kernel_rfl
set_option maxRecDepth 100000 in
set_option maxHeartbeats 1600000 in
theorem rows_any (w : World) : Calls Tryz.prog 91 #[] w fun e w' => e = .returned (.agg rowsArr) ∧ Below w.heap.size w w' := by
  obtain ⟨z, hz, hzs⟩ : ∃ z : Array Value, (∀ w, (zeroValue 131).run Tryz.prog w = .ok (.agg z) w) ∧ Hid (z.size = rowsArr.size) := ⟨zeroArr, zeroArr_run, bl.hid (by rw [zeroArr_size, rowsArr_size])⟩
  have hi : Hid ((Tryz.prog.info? 131).map (·.size) = some rowsArr.size) := bl.hid (by rw [rowsArr_size]; exact rowsArr_info)
  go_enter Tryz.func91, Tryz.ntmps91
  refine wp_seq_k (fun K hK => ?_)
  refine wp_region_lit ?_
  refine kt.wpList_alloc_row rfl _ rfl z hz ?_
  refine wpList_nil ?_
  refine hK _ _ ?_
  clear hK K
  refine wp_seq_k (fun K hK => ?_)
  refine wp_region_lit ?_
  simp only [List.append_eq, List.cons_append, List.nil_append]
  iterate 65 (refine wpList_build rfl _ _ rfl (by kernel_rfl) ?_)
  refine kt.wpList_store_row_new rfl 131 _ _ rfl rfl z rowsArr (by kernel_rfl) (by kernel_rfl) hi.out hzs.out rowsArr_one ?_
  refine wpList_nil ?_
  refine hK _ _ ?_
  clear hK K
  refine wp_ret ?_
  refine bodyPost_ret (results_cell_row rfl _ _ w.heap.size 131 rowsArr (0, 0) _ (by kernel_rfl) (heap_alloc_last _ _) Tryz.underlying131 rfl hi.out) (by kernel_rfl) ?_
  exact ⟨rfl, kt.below_row _⟩
end Go.Proofs.YtjjkocklpcdbkaaGreat
namespace Go.Proofs.YtjjkocklpcdbkaaGreat
open Go.RowKit
set_option linter.unusedVariables false
set_option maxRecDepth 100000

/-- the table, its cells out of sight -/
structure Tab (R : Array Value) : Prop where
  call : ∀ w, Calls Tryz.prog 91 #[] w fun e w' => e = .returned (.agg R) ∧ Below w.heap.size w w'
  size : R.size = 320
  one : R.all (·.oneCell') = true
  at' : ∀ k j, k < 64 → j < 5 → R[k * 5 + j]? = (rv.cells (rv.row k))[j]?
theorem tab : ∃ R, Tab R := ⟨rowsArr, rows_any, rowsArr_size, rowsArr_one, fun k j hk hj => rowsArr_at k j hk hj⟩
/-- an empty array of rows, its cells out of sight -/
theorem ztab : ∃ z : Array Value, (∀ w, (zeroValue 131).run Tryz.prog w = .ok (.agg z) w) ∧ Hid (z.size = 320) := ⟨zeroArr, zeroArr_run, bl.hid zeroArr_size⟩
def zrow : Array Value := #[.string ⟨#[]⟩, .string ⟨#[]⟩, .int .u32 0, .int .u32 0, .int .u32 0]
theorem row_info : (Tryz.prog.info? 130).map (·.size) = some 5 := by kernel_rfl
theorem cells_one (r : rv.Row) : (rv.cells r).all (·.oneCell') = true := by simp [rv.cells, Value.oneCell']
set_option maxHeartbeats 800000 in
theorem of_ok (k : Nat) (w : World) (h0 : 1 ≤ k) (h1 : k < 64) :
    Calls Tryz.prog 109 #[.int .i64 k] w fun e w' => e = .returned (.tuple #[.agg (rv.cells (rv.row k)), .bool true]) ∧ Below w.heap.size w w' := by
  obtain ⟨R, T⟩ := tab
  obtain ⟨z, hz, hzs⟩ := ztab
  have HI : Hid ((Tryz.prog.info? 131).map (·.size) = some R.size) := bl.hid (by rw [T.size]; exact rowsArr_info)
  have HS : Hid (z.size = R.size) := bl.hid (by rw [hzs.out, T.size])
  obtain ⟨r, hr⟩ : ∃ r, rv.row k = r := ⟨_, rfl⟩
  have a0 : R[k * 5]? = some (.string r.name) := by rw [← hr]; exact T.at' k 0 h1 (by omega)
  have a1 : R[k * 5 + 1]? = some (.string r.form) := by rw [← hr]; exact T.at' k 1 h1 (by omega)
  have a2 : R[k * 5 + 2]? = some (.int .u32 r.a) := by rw [← hr]; exact T.at' k 2 h1 (by omega)
  have a3 : R[k * 5 + 3]? = some (.int .u32 r.b) := by rw [← hr]; exact T.at' k 3 h1 (by omega)
  have a4 : R[k * 5 + 4]? = some (.int .u32 r.c) := by rw [← hr]; exact T.at' k 4 h1 (by omega)
  rw [hr]
  have HT := bl.hid T
  clear T hr
  have n1 : decide ((k : Int) < 1) = false := decide_eq_false (by omega)
  have n2 : decide ((k : Int) ≥ 64) = false := decide_eq_false (by omega)
  have n3 : (k : Int) < 64 := by omega
  go_enter Tryz.func109, Tryz.ntmps109
  go_wp2_with fail
  refine (HT.out.call _).mono ?_
  rintro e w1 ⟨rfl, hb⟩
  have hg1 : (w1.alloc (.cells R 131)).heap[w.heap.size]? = some (.cells zrow 130 (0, 0)) := by
    have hs := hb.size
    rw [heap_alloc_old _ _ (by simp at hs; omega), hb.block _ (by simp), heap_alloc_new]
    rfl
  have HG := bl.hid hg1
  have hb1 : Below w.heap.size w (w1.alloc (.cells R 131)) := ((kt.below_row _).trans (hb.mono (by simp))).alloc (by have := hb.size; simp at this; omega) _
  clear hg1 hb
  go_wp2_with (first | (refine kt.wpList_alloc_row rfl 131 rfl z hz ?_) | (refine kt.wpList_store_row_new rfl 131 _ _ rfl rfl z R rfl rfl HI.out HS.out HT.out.one ?_) | (refine wpList_store_row rfl 130 _ _ rfl w.heap.size (rv.cells r) rfl rfl 130 zrow HG.out row_info rfl (cells_one r) ?_))
  refine bodyPost_ret (kt.results_row_tmp rfl _ _ w.heap.size 130 (rv.cells r) (0, 0) _ rfl (setRow_heap _ _ _ _ _ _ HG.out) Tryz.underlying130 rfl row_info) rfl ?_
  exact ⟨rfl, hb1.trans ⟨rfl, rfl, rfl, by simp, fun k hk => setRow_other _ _ _ _ (by omega)⟩⟩
set_option maxHeartbeats 800000 in
theorem of_no (k : Int) (w : World) (h : k < 1 ∨ 64 ≤ k) :
    Calls Tryz.prog 109 #[.int .i64 k] w fun e w' => e = .returned (.tuple #[.agg (rv.cells (rv.row 0)), .bool false]) ∧ Below w.heap.size w w' := by
  obtain ⟨R, T⟩ := tab
  obtain ⟨z, hz, hzs⟩ := ztab
  have HI : Hid ((Tryz.prog.info? 131).map (·.size) = some R.size) := bl.hid (by rw [T.size]; exact rowsArr_info)
  have HS : Hid (z.size = R.size) := bl.hid (by rw [hzs.out, T.size])
  have HT := bl.hid T
  clear T
  by_cases n1 : k < 1
  · have d1 : decide (k < 1) = true := decide_eq_true n1
    clear h n1
    go_enter Tryz.func109, Tryz.ntmps109
    go_wp2_with fail
    refine (HT.out.call _).mono ?_
    rintro e w1 ⟨rfl, hb⟩
    have hg1 : (w1.alloc (.cells R 131)).heap[w.heap.size]? = some (.cells zrow 130 (0, 0)) := by
      have hs := hb.size
      rw [heap_alloc_old _ _ (by simp at hs; omega), hb.block _ (by simp), heap_alloc_new]
      rfl
    have HG := bl.hid hg1
    have hb1 : Below w.heap.size w (w1.alloc (.cells R 131)) := ((kt.below_row _).trans (hb.mono (by simp))).alloc (by have := hb.size; simp at this; omega) _
    clear hg1 hb
    go_wp2_with (first | (refine kt.wpList_alloc_row rfl 131 rfl z hz ?_) | (refine kt.wpList_store_row_new rfl 131 _ _ rfl rfl z R rfl rfl HI.out HS.out HT.out.one ?_) | (refine wpList_store_row rfl 130 _ _ rfl w.heap.size (rv.cells (rv.row 0)) rfl rfl 130 zrow HG.out row_info rfl (cells_one _) ?_))
    refine bodyPost_ret (kt.results_row_tmp rfl _ _ w.heap.size 130 (rv.cells (rv.row 0)) (0, 0) _ rfl (setRow_heap _ _ _ _ _ _ HG.out) Tryz.underlying130 rfl row_info) rfl ?_
    exact ⟨rfl, hb1.trans ⟨rfl, rfl, rfl, by simp, fun k hk => setRow_other _ _ _ _ (by omega)⟩⟩
  · have d1 : decide (k < 1) = false := decide_eq_false n1
    have d2 : decide (64 ≤ k) = true := decide_eq_true (by omega)
    clear h n1
    go_enter Tryz.func109, Tryz.ntmps109
    go_wp2_with fail
    refine (HT.out.call _).mono ?_
    rintro e w1 ⟨rfl, hb⟩
    have hg1 : (w1.alloc (.cells R 131)).heap[w.heap.size]? = some (.cells zrow 130 (0, 0)) := by
      have hs := hb.size
      rw [heap_alloc_old _ _ (by simp at hs; omega), hb.block _ (by simp), heap_alloc_new]
      rfl
    have HG := bl.hid hg1
    have hb1 : Below w.heap.size w (w1.alloc (.cells R 131)) := ((kt.below_row _).trans (hb.mono (by simp))).alloc (by have := hb.size; simp at this; omega) _
    clear hg1 hb
    go_wp2_with (first | (refine kt.wpList_alloc_row rfl 131 rfl z hz ?_) | (refine kt.wpList_store_row_new rfl 131 _ _ rfl rfl z R rfl rfl HI.out HS.out HT.out.one ?_) | (refine wpList_store_row rfl 130 _ _ rfl w.heap.size (rv.cells (rv.row 0)) rfl rfl 130 zrow HG.out row_info rfl (cells_one _) ?_))
    refine bodyPost_ret (kt.results_row_tmp rfl _ _ w.heap.size 130 (rv.cells (rv.row 0)) (0, 0) _ rfl (setRow_heap _ _ _ _ _ _ HG.out) Tryz.underlying130 rfl row_info) rfl ?_
    exact ⟨rfl, hb1.trans ⟨rfl, rfl, rfl, by simp, fun k hk => setRow_other _ _ _ _ (by omega)⟩⟩
namespace rv
/-- is that an operation -/
def is (op : Int) : Bool := decide (1 ≤ op ∧ op < 64)
/-- the row of any number -/
def rowI (op : Int) : Row := if is op then row op.toNat else row 0
end rv
theorem of_any (op : Int) (w : World) : Calls Tryz.prog 109 #[.int .i64 op] w fun e w' => e = .returned (.tuple #[.agg (rv.cells (rv.rowI op)), .bool (rv.is op)]) ∧ Below w.heap.size w w' := by
  by_cases h : 1 ≤ op ∧ op < 64
  · obtain ⟨k, rfl⟩ : ∃ k : Nat, op = k := ⟨op.toNat, by omega⟩
    have hi : rv.is k = true := decide_eq_true h
    rw [show rv.rowI k = rv.row k by simp [rv.rowI, hi], hi]
    exact of_ok k w (by omega) (by omega)
  · have hi : rv.is op = false := decide_eq_false h
    rw [show rv.rowI op = rv.row 0 by simp [rv.rowI, hi], hi]
    exact of_no op w (by omega)
end Go.Proofs.YtjjkocklpcdbkaaGreat
namespace Go.Proofs.YtjjkocklpcdbkaaGreat
open Go.RowKit
set_option linter.unusedVariables false
set_option maxRecDepth 100000
theorem rows_index {R : Array Value} (T : Tab R) (k : Nat) (hk : k < 64) (w : World) : (Instr.index 131 (.agg R) (.int .i64 k)).run Tryz.prog w = .ok (.agg (rv.cells (rv.row k))) w := by
  have e : R.extract (k * 5) (k * 5 + 5) = rv.cells (rv.row k) := by
    apply Array.ext_getElem?
    intro j
    rw [Array.getElem?_extract]
    have hs : min (k * 5 + 5) R.size - k * 5 = 5 := by rw [T.size]; omega
    rw [hs]
    by_cases hj : j < 5
    · rw [if_pos hj]
      exact T.at' k j hk hj
    · rw [if_neg hj]
      rw [Array.getElem?_eq_none]
      rw [rv.cells_size]
      omega
  simp [Instr.index, run_underlying Tryz.underlying131, asIntOf, part, hk, go_sem]
  rw [e]
theorem shape_b (x : Value) (b : Bool) (c d e f : Value) (w : World) : (Instr.field 135 (.agg #[x, .bool b, c, d, e, f]) 1).run Tryz.prog w = .ok (.bool b) w := by kernel_rfl
end Go.Proofs.YtjjkocklpcdbkaaGreat
